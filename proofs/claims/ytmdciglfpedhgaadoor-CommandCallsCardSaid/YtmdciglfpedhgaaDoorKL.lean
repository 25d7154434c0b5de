/- Walks: the document's Check. -/
import Derived.Test.YtmdciglfpedhgaaDoorKE
namespace Go.Proofs.YtmdciglfpedhgaaDoor
open Go.AM
set_option linter.unusedSimpArgs false
set_option linter.unusedVariables false

def bad2 (j : Nat) (x : Cm) : Bool := decide ((x.txt ≠ [] ∧ j ≠ 1) ∨ (x.st ≠ 0 ∧ (j < 3 ∨ j = 6 ∨ j = 8)) ∨ (x.pa ≠ 0 ∧ j ≠ 4) ∨ (x.fl ≠ 0 ∧ j ≠ 3) ∨ 1 < x.fl)
def bad4 (j : Nat) (x : Cm) : Bool := decide ((x.co ≠ 0 ∧ j ≠ 2 ∧ j ≠ 7) ∨ (x.op ≠ 0 ∧ j ≠ 6) ∨ (x.dat ≠ [] ∧ j ≠ 3 ∧ j ≠ 4 ∧ j ≠ 8))

noncomputable def ck2O : Option Code := ((((Tryd.f12.body).bind cR).bind cR).bind cL).bind cL
noncomputable def ck4O : Option Code := (((((Tryd.f12.body).bind cR).bind cR).bind cR).bind cL).bind cL
def ckF (j : Int) : AM.Frame := [(1, .ptr 0 0 0 0), (3, .int .i64 j)]

section
variable (x : Cm) (c t : Nat) (p : AV)

set_option maxRecDepth 100000 in
theorem bad2_0 (hp : plen p = x.dat.length) : ∃ code, ck2O = some code ∧ Run X (evT X) 12 0 code (ckF 0) [some (cmO x (.ro c p t))] ⟨.normal, ckF 0 ++ [(53, .bool (bad2 0 x))], [some (cmO x (.ro c p t))]⟩ := by
  refine ⟨_, rfl, 0, ?_⟩
  by_cases e_txt : x.txt = []
  case neg =>
    have f_txt : (x.txt == []) = false := by simpa using e_txt
    have g_txt : (x.txt != []) = true := by simpa using e_txt
    have hv : bad2 0 x = true := by simp [bad2, e_txt, f_txt, g_txt]
    rw [hv]
    simp (maxSteps := 2000000) -implicitDefEqProofs [-getElem?_pos, List.getElem?_cons_zero, List.getElem?_cons_succ, exec, runOps, dstOk, wantedV, AM.step, evalT, evalO, evalArgs, evalParts, getF, putF, afterRegion, assignV, boxOf, newBox, hasIdsP, keepF, ofVal, ofCell, plen, pesz, callV, builtinV, lenV, binV, unV, arith, shiftI, loadV, storeV, putV, indexAddrV, live, upd, pget, pset, psetA, pagg, retag, retagP, byteAV, freezeP, freezeV, joinTags, joinTag, tags, ids, scalar, cellsLen, eqV, convV, faV, fvV, shiftBy, shiftRo, ckF, cmO, Cm.pay, strOp, -plen, hp, e_txt, f_txt, g_txt]
  by_cases e_st : x.st = 0
  case neg =>
    have f_st : (((x.st : Nat) : Int) == 0) = false := by simp; omega
    have g_st : (((x.st : Nat) : Int) != 0) = true := by simp; omega
    have hv : bad2 0 x = true := by simp [bad2, e_txt, e_st, f_st, g_st]
    rw [hv]
    simp (maxSteps := 2000000) -implicitDefEqProofs [-getElem?_pos, List.getElem?_cons_zero, List.getElem?_cons_succ, exec, runOps, dstOk, wantedV, AM.step, evalT, evalO, evalArgs, evalParts, getF, putF, afterRegion, assignV, boxOf, newBox, hasIdsP, keepF, ofVal, ofCell, plen, pesz, callV, builtinV, lenV, binV, unV, arith, shiftI, loadV, storeV, putV, indexAddrV, live, upd, pget, pset, psetA, pagg, retag, retagP, byteAV, freezeP, freezeV, joinTags, joinTag, tags, ids, scalar, cellsLen, eqV, convV, faV, fvV, shiftBy, shiftRo, ckF, cmO, Cm.pay, strOp, -plen, hp, e_txt, e_st, f_st, g_st]
  by_cases e_pa : x.pa = 0
  case neg =>
    have f_pa : (((x.pa : Nat) : Int) == 0) = false := by simp; omega
    have g_pa : (((x.pa : Nat) : Int) != 0) = true := by simp; omega
    have hv : bad2 0 x = true := by simp [bad2, e_txt, e_st, e_pa, f_pa, g_pa]
    rw [hv]
    simp (maxSteps := 2000000) -implicitDefEqProofs [-getElem?_pos, List.getElem?_cons_zero, List.getElem?_cons_succ, exec, runOps, dstOk, wantedV, AM.step, evalT, evalO, evalArgs, evalParts, getF, putF, afterRegion, assignV, boxOf, newBox, hasIdsP, keepF, ofVal, ofCell, plen, pesz, callV, builtinV, lenV, binV, unV, arith, shiftI, loadV, storeV, putV, indexAddrV, live, upd, pget, pset, psetA, pagg, retag, retagP, byteAV, freezeP, freezeV, joinTags, joinTag, tags, ids, scalar, cellsLen, eqV, convV, faV, fvV, shiftBy, shiftRo, ckF, cmO, Cm.pay, strOp, -plen, hp, e_txt, e_st, e_pa, f_pa, g_pa]
  by_cases e_fl : x.fl = 0
  case neg =>
    have f_fl : (((x.fl : Nat) : Int) == 0) = false := by simp; omega
    have g_fl : (((x.fl : Nat) : Int) != 0) = true := by simp; omega
    have hv : bad2 0 x = true := by simp [bad2, e_txt, e_st, e_pa, e_fl, f_fl, g_fl]
    rw [hv]
    simp (maxSteps := 2000000) -implicitDefEqProofs [-getElem?_pos, List.getElem?_cons_zero, List.getElem?_cons_succ, exec, runOps, dstOk, wantedV, AM.step, evalT, evalO, evalArgs, evalParts, getF, putF, afterRegion, assignV, boxOf, newBox, hasIdsP, keepF, ofVal, ofCell, plen, pesz, callV, builtinV, lenV, binV, unV, arith, shiftI, loadV, storeV, putV, indexAddrV, live, upd, pget, pset, psetA, pagg, retag, retagP, byteAV, freezeP, freezeV, joinTags, joinTag, tags, ids, scalar, cellsLen, eqV, convV, faV, fvV, shiftBy, shiftRo, ckF, cmO, Cm.pay, strOp, -plen, hp, e_txt, e_st, e_pa, e_fl, f_fl, g_fl]
  have hv : bad2 0 x = false := by simp [bad2, e_txt, e_st, e_pa, e_fl]
  rw [hv]
  simp (maxSteps := 2000000) -implicitDefEqProofs [-getElem?_pos, List.getElem?_cons_zero, List.getElem?_cons_succ, exec, runOps, dstOk, wantedV, AM.step, evalT, evalO, evalArgs, evalParts, getF, putF, afterRegion, assignV, boxOf, newBox, hasIdsP, keepF, ofVal, ofCell, plen, pesz, callV, builtinV, lenV, binV, unV, arith, shiftI, loadV, storeV, putV, indexAddrV, live, upd, pget, pset, psetA, pagg, retag, retagP, byteAV, freezeP, freezeV, joinTags, joinTag, tags, ids, scalar, cellsLen, eqV, convV, faV, fvV, shiftBy, shiftRo, ckF, cmO, Cm.pay, strOp, -plen, hp, e_txt, e_st, e_pa, e_fl]

set_option maxRecDepth 100000 in
theorem bad2_1 (hp : plen p = x.dat.length) : ∃ code, ck2O = some code ∧ Run X (evT X) 12 0 code (ckF 1) [some (cmO x (.ro c p t))] ⟨.normal, ckF 1 ++ [(53, .bool (bad2 1 x))], [some (cmO x (.ro c p t))]⟩ := by
  refine ⟨_, rfl, 0, ?_⟩
  by_cases e_txt : x.txt = []
  · skip
    by_cases e_st : x.st = 0
    case neg =>
      have f_st : (((x.st : Nat) : Int) == 0) = false := by simp; omega
      have g_st : (((x.st : Nat) : Int) != 0) = true := by simp; omega
      have hv : bad2 1 x = true := by simp [bad2, e_txt, e_st, f_st, g_st]
      rw [hv]
      simp (maxSteps := 2000000) -implicitDefEqProofs [-getElem?_pos, List.getElem?_cons_zero, List.getElem?_cons_succ, exec, runOps, dstOk, wantedV, AM.step, evalT, evalO, evalArgs, evalParts, getF, putF, afterRegion, assignV, boxOf, newBox, hasIdsP, keepF, ofVal, ofCell, plen, pesz, callV, builtinV, lenV, binV, unV, arith, shiftI, loadV, storeV, putV, indexAddrV, live, upd, pget, pset, psetA, pagg, retag, retagP, byteAV, freezeP, freezeV, joinTags, joinTag, tags, ids, scalar, cellsLen, eqV, convV, faV, fvV, shiftBy, shiftRo, ckF, cmO, Cm.pay, strOp, -plen, hp, e_txt, e_st, f_st, g_st]
    by_cases e_pa : x.pa = 0
    case neg =>
      have f_pa : (((x.pa : Nat) : Int) == 0) = false := by simp; omega
      have g_pa : (((x.pa : Nat) : Int) != 0) = true := by simp; omega
      have hv : bad2 1 x = true := by simp [bad2, e_txt, e_st, e_pa, f_pa, g_pa]
      rw [hv]
      simp (maxSteps := 2000000) -implicitDefEqProofs [-getElem?_pos, List.getElem?_cons_zero, List.getElem?_cons_succ, exec, runOps, dstOk, wantedV, AM.step, evalT, evalO, evalArgs, evalParts, getF, putF, afterRegion, assignV, boxOf, newBox, hasIdsP, keepF, ofVal, ofCell, plen, pesz, callV, builtinV, lenV, binV, unV, arith, shiftI, loadV, storeV, putV, indexAddrV, live, upd, pget, pset, psetA, pagg, retag, retagP, byteAV, freezeP, freezeV, joinTags, joinTag, tags, ids, scalar, cellsLen, eqV, convV, faV, fvV, shiftBy, shiftRo, ckF, cmO, Cm.pay, strOp, -plen, hp, e_txt, e_st, e_pa, f_pa, g_pa]
    by_cases e_fl : x.fl = 0
    case neg =>
      have f_fl : (((x.fl : Nat) : Int) == 0) = false := by simp; omega
      have g_fl : (((x.fl : Nat) : Int) != 0) = true := by simp; omega
      have hv : bad2 1 x = true := by simp [bad2, e_txt, e_st, e_pa, e_fl, f_fl, g_fl]
      rw [hv]
      simp (maxSteps := 2000000) -implicitDefEqProofs [-getElem?_pos, List.getElem?_cons_zero, List.getElem?_cons_succ, exec, runOps, dstOk, wantedV, AM.step, evalT, evalO, evalArgs, evalParts, getF, putF, afterRegion, assignV, boxOf, newBox, hasIdsP, keepF, ofVal, ofCell, plen, pesz, callV, builtinV, lenV, binV, unV, arith, shiftI, loadV, storeV, putV, indexAddrV, live, upd, pget, pset, psetA, pagg, retag, retagP, byteAV, freezeP, freezeV, joinTags, joinTag, tags, ids, scalar, cellsLen, eqV, convV, faV, fvV, shiftBy, shiftRo, ckF, cmO, Cm.pay, strOp, -plen, hp, e_txt, e_st, e_pa, e_fl, f_fl, g_fl]
    have hv : bad2 1 x = false := by simp [bad2, e_txt, e_st, e_pa, e_fl]
    rw [hv]
    simp (maxSteps := 2000000) -implicitDefEqProofs [-getElem?_pos, List.getElem?_cons_zero, List.getElem?_cons_succ, exec, runOps, dstOk, wantedV, AM.step, evalT, evalO, evalArgs, evalParts, getF, putF, afterRegion, assignV, boxOf, newBox, hasIdsP, keepF, ofVal, ofCell, plen, pesz, callV, builtinV, lenV, binV, unV, arith, shiftI, loadV, storeV, putV, indexAddrV, live, upd, pget, pset, psetA, pagg, retag, retagP, byteAV, freezeP, freezeV, joinTags, joinTag, tags, ids, scalar, cellsLen, eqV, convV, faV, fvV, shiftBy, shiftRo, ckF, cmO, Cm.pay, strOp, -plen, hp, e_txt, e_st, e_pa, e_fl]
  · skip
    have f_txt : (x.txt == []) = false := by simpa using e_txt
    have g_txt : (x.txt != []) = true := by simpa using e_txt
    by_cases e_st : x.st = 0
    case neg =>
      have f_st : (((x.st : Nat) : Int) == 0) = false := by simp; omega
      have g_st : (((x.st : Nat) : Int) != 0) = true := by simp; omega
      have hv : bad2 1 x = true := by simp [bad2, e_txt, f_txt, g_txt, e_st, f_st, g_st]
      rw [hv]
      simp (maxSteps := 2000000) -implicitDefEqProofs [-getElem?_pos, List.getElem?_cons_zero, List.getElem?_cons_succ, exec, runOps, dstOk, wantedV, AM.step, evalT, evalO, evalArgs, evalParts, getF, putF, afterRegion, assignV, boxOf, newBox, hasIdsP, keepF, ofVal, ofCell, plen, pesz, callV, builtinV, lenV, binV, unV, arith, shiftI, loadV, storeV, putV, indexAddrV, live, upd, pget, pset, psetA, pagg, retag, retagP, byteAV, freezeP, freezeV, joinTags, joinTag, tags, ids, scalar, cellsLen, eqV, convV, faV, fvV, shiftBy, shiftRo, ckF, cmO, Cm.pay, strOp, -plen, hp, e_txt, f_txt, g_txt, e_st, f_st, g_st]
    by_cases e_pa : x.pa = 0
    case neg =>
      have f_pa : (((x.pa : Nat) : Int) == 0) = false := by simp; omega
      have g_pa : (((x.pa : Nat) : Int) != 0) = true := by simp; omega
      have hv : bad2 1 x = true := by simp [bad2, e_txt, f_txt, g_txt, e_st, e_pa, f_pa, g_pa]
      rw [hv]
      simp (maxSteps := 2000000) -implicitDefEqProofs [-getElem?_pos, List.getElem?_cons_zero, List.getElem?_cons_succ, exec, runOps, dstOk, wantedV, AM.step, evalT, evalO, evalArgs, evalParts, getF, putF, afterRegion, assignV, boxOf, newBox, hasIdsP, keepF, ofVal, ofCell, plen, pesz, callV, builtinV, lenV, binV, unV, arith, shiftI, loadV, storeV, putV, indexAddrV, live, upd, pget, pset, psetA, pagg, retag, retagP, byteAV, freezeP, freezeV, joinTags, joinTag, tags, ids, scalar, cellsLen, eqV, convV, faV, fvV, shiftBy, shiftRo, ckF, cmO, Cm.pay, strOp, -plen, hp, e_txt, f_txt, g_txt, e_st, e_pa, f_pa, g_pa]
    by_cases e_fl : x.fl = 0
    case neg =>
      have f_fl : (((x.fl : Nat) : Int) == 0) = false := by simp; omega
      have g_fl : (((x.fl : Nat) : Int) != 0) = true := by simp; omega
      have hv : bad2 1 x = true := by simp [bad2, e_txt, f_txt, g_txt, e_st, e_pa, e_fl, f_fl, g_fl]
      rw [hv]
      simp (maxSteps := 2000000) -implicitDefEqProofs [-getElem?_pos, List.getElem?_cons_zero, List.getElem?_cons_succ, exec, runOps, dstOk, wantedV, AM.step, evalT, evalO, evalArgs, evalParts, getF, putF, afterRegion, assignV, boxOf, newBox, hasIdsP, keepF, ofVal, ofCell, plen, pesz, callV, builtinV, lenV, binV, unV, arith, shiftI, loadV, storeV, putV, indexAddrV, live, upd, pget, pset, psetA, pagg, retag, retagP, byteAV, freezeP, freezeV, joinTags, joinTag, tags, ids, scalar, cellsLen, eqV, convV, faV, fvV, shiftBy, shiftRo, ckF, cmO, Cm.pay, strOp, -plen, hp, e_txt, f_txt, g_txt, e_st, e_pa, e_fl, f_fl, g_fl]
    have hv : bad2 1 x = false := by simp [bad2, e_txt, f_txt, g_txt, e_st, e_pa, e_fl]
    rw [hv]
    simp (maxSteps := 2000000) -implicitDefEqProofs [-getElem?_pos, List.getElem?_cons_zero, List.getElem?_cons_succ, exec, runOps, dstOk, wantedV, AM.step, evalT, evalO, evalArgs, evalParts, getF, putF, afterRegion, assignV, boxOf, newBox, hasIdsP, keepF, ofVal, ofCell, plen, pesz, callV, builtinV, lenV, binV, unV, arith, shiftI, loadV, storeV, putV, indexAddrV, live, upd, pget, pset, psetA, pagg, retag, retagP, byteAV, freezeP, freezeV, joinTags, joinTag, tags, ids, scalar, cellsLen, eqV, convV, faV, fvV, shiftBy, shiftRo, ckF, cmO, Cm.pay, strOp, -plen, hp, e_txt, f_txt, g_txt, e_st, e_pa, e_fl]

set_option maxRecDepth 100000 in
theorem bad2_2 (hp : plen p = x.dat.length) : ∃ code, ck2O = some code ∧ Run X (evT X) 12 0 code (ckF 2) [some (cmO x (.ro c p t))] ⟨.normal, ckF 2 ++ [(53, .bool (bad2 2 x))], [some (cmO x (.ro c p t))]⟩ := by
  refine ⟨_, rfl, 0, ?_⟩
  by_cases e_txt : x.txt = []
  case neg =>
    have f_txt : (x.txt == []) = false := by simpa using e_txt
    have g_txt : (x.txt != []) = true := by simpa using e_txt
    have hv : bad2 2 x = true := by simp [bad2, e_txt, f_txt, g_txt]
    rw [hv]
    simp (maxSteps := 2000000) -implicitDefEqProofs [-getElem?_pos, List.getElem?_cons_zero, List.getElem?_cons_succ, exec, runOps, dstOk, wantedV, AM.step, evalT, evalO, evalArgs, evalParts, getF, putF, afterRegion, assignV, boxOf, newBox, hasIdsP, keepF, ofVal, ofCell, plen, pesz, callV, builtinV, lenV, binV, unV, arith, shiftI, loadV, storeV, putV, indexAddrV, live, upd, pget, pset, psetA, pagg, retag, retagP, byteAV, freezeP, freezeV, joinTags, joinTag, tags, ids, scalar, cellsLen, eqV, convV, faV, fvV, shiftBy, shiftRo, ckF, cmO, Cm.pay, strOp, -plen, hp, e_txt, f_txt, g_txt]
  by_cases e_st : x.st = 0
  case neg =>
    have f_st : (((x.st : Nat) : Int) == 0) = false := by simp; omega
    have g_st : (((x.st : Nat) : Int) != 0) = true := by simp; omega
    have hv : bad2 2 x = true := by simp [bad2, e_txt, e_st, f_st, g_st]
    rw [hv]
    simp (maxSteps := 2000000) -implicitDefEqProofs [-getElem?_pos, List.getElem?_cons_zero, List.getElem?_cons_succ, exec, runOps, dstOk, wantedV, AM.step, evalT, evalO, evalArgs, evalParts, getF, putF, afterRegion, assignV, boxOf, newBox, hasIdsP, keepF, ofVal, ofCell, plen, pesz, callV, builtinV, lenV, binV, unV, arith, shiftI, loadV, storeV, putV, indexAddrV, live, upd, pget, pset, psetA, pagg, retag, retagP, byteAV, freezeP, freezeV, joinTags, joinTag, tags, ids, scalar, cellsLen, eqV, convV, faV, fvV, shiftBy, shiftRo, ckF, cmO, Cm.pay, strOp, -plen, hp, e_txt, e_st, f_st, g_st]
  by_cases e_pa : x.pa = 0
  case neg =>
    have f_pa : (((x.pa : Nat) : Int) == 0) = false := by simp; omega
    have g_pa : (((x.pa : Nat) : Int) != 0) = true := by simp; omega
    have hv : bad2 2 x = true := by simp [bad2, e_txt, e_st, e_pa, f_pa, g_pa]
    rw [hv]
    simp (maxSteps := 2000000) -implicitDefEqProofs [-getElem?_pos, List.getElem?_cons_zero, List.getElem?_cons_succ, exec, runOps, dstOk, wantedV, AM.step, evalT, evalO, evalArgs, evalParts, getF, putF, afterRegion, assignV, boxOf, newBox, hasIdsP, keepF, ofVal, ofCell, plen, pesz, callV, builtinV, lenV, binV, unV, arith, shiftI, loadV, storeV, putV, indexAddrV, live, upd, pget, pset, psetA, pagg, retag, retagP, byteAV, freezeP, freezeV, joinTags, joinTag, tags, ids, scalar, cellsLen, eqV, convV, faV, fvV, shiftBy, shiftRo, ckF, cmO, Cm.pay, strOp, -plen, hp, e_txt, e_st, e_pa, f_pa, g_pa]
  by_cases e_fl : x.fl = 0
  case neg =>
    have f_fl : (((x.fl : Nat) : Int) == 0) = false := by simp; omega
    have g_fl : (((x.fl : Nat) : Int) != 0) = true := by simp; omega
    have hv : bad2 2 x = true := by simp [bad2, e_txt, e_st, e_pa, e_fl, f_fl, g_fl]
    rw [hv]
    simp (maxSteps := 2000000) -implicitDefEqProofs [-getElem?_pos, List.getElem?_cons_zero, List.getElem?_cons_succ, exec, runOps, dstOk, wantedV, AM.step, evalT, evalO, evalArgs, evalParts, getF, putF, afterRegion, assignV, boxOf, newBox, hasIdsP, keepF, ofVal, ofCell, plen, pesz, callV, builtinV, lenV, binV, unV, arith, shiftI, loadV, storeV, putV, indexAddrV, live, upd, pget, pset, psetA, pagg, retag, retagP, byteAV, freezeP, freezeV, joinTags, joinTag, tags, ids, scalar, cellsLen, eqV, convV, faV, fvV, shiftBy, shiftRo, ckF, cmO, Cm.pay, strOp, -plen, hp, e_txt, e_st, e_pa, e_fl, f_fl, g_fl]
  have hv : bad2 2 x = false := by simp [bad2, e_txt, e_st, e_pa, e_fl]
  rw [hv]
  simp (maxSteps := 2000000) -implicitDefEqProofs [-getElem?_pos, List.getElem?_cons_zero, List.getElem?_cons_succ, exec, runOps, dstOk, wantedV, AM.step, evalT, evalO, evalArgs, evalParts, getF, putF, afterRegion, assignV, boxOf, newBox, hasIdsP, keepF, ofVal, ofCell, plen, pesz, callV, builtinV, lenV, binV, unV, arith, shiftI, loadV, storeV, putV, indexAddrV, live, upd, pget, pset, psetA, pagg, retag, retagP, byteAV, freezeP, freezeV, joinTags, joinTag, tags, ids, scalar, cellsLen, eqV, convV, faV, fvV, shiftBy, shiftRo, ckF, cmO, Cm.pay, strOp, -plen, hp, e_txt, e_st, e_pa, e_fl]

set_option maxRecDepth 100000 in
theorem bad2_3 (hp : plen p = x.dat.length) : ∃ code, ck2O = some code ∧ Run X (evT X) 12 0 code (ckF 3) [some (cmO x (.ro c p t))] ⟨.normal, ckF 3 ++ [(53, .bool (bad2 3 x))], [some (cmO x (.ro c p t))]⟩ := by
  refine ⟨_, rfl, 0, ?_⟩
  by_cases e_txt : x.txt = []
  case neg =>
    have f_txt : (x.txt == []) = false := by simpa using e_txt
    have g_txt : (x.txt != []) = true := by simpa using e_txt
    have hv : bad2 3 x = true := by simp [bad2, e_txt, f_txt, g_txt]
    rw [hv]
    simp (maxSteps := 2000000) -implicitDefEqProofs [-getElem?_pos, List.getElem?_cons_zero, List.getElem?_cons_succ, exec, runOps, dstOk, wantedV, AM.step, evalT, evalO, evalArgs, evalParts, getF, putF, afterRegion, assignV, boxOf, newBox, hasIdsP, keepF, ofVal, ofCell, plen, pesz, callV, builtinV, lenV, binV, unV, arith, shiftI, loadV, storeV, putV, indexAddrV, live, upd, pget, pset, psetA, pagg, retag, retagP, byteAV, freezeP, freezeV, joinTags, joinTag, tags, ids, scalar, cellsLen, eqV, convV, faV, fvV, shiftBy, shiftRo, ckF, cmO, Cm.pay, strOp, -plen, hp, e_txt, f_txt, g_txt]
  by_cases e_st : x.st = 0
  · skip
    by_cases e_pa : x.pa = 0
    case neg =>
      have f_pa : (((x.pa : Nat) : Int) == 0) = false := by simp; omega
      have g_pa : (((x.pa : Nat) : Int) != 0) = true := by simp; omega
      have hv : bad2 3 x = true := by simp [bad2, e_txt, e_st, e_pa, f_pa, g_pa]
      rw [hv]
      simp (maxSteps := 2000000) -implicitDefEqProofs [-getElem?_pos, List.getElem?_cons_zero, List.getElem?_cons_succ, exec, runOps, dstOk, wantedV, AM.step, evalT, evalO, evalArgs, evalParts, getF, putF, afterRegion, assignV, boxOf, newBox, hasIdsP, keepF, ofVal, ofCell, plen, pesz, callV, builtinV, lenV, binV, unV, arith, shiftI, loadV, storeV, putV, indexAddrV, live, upd, pget, pset, psetA, pagg, retag, retagP, byteAV, freezeP, freezeV, joinTags, joinTag, tags, ids, scalar, cellsLen, eqV, convV, faV, fvV, shiftBy, shiftRo, ckF, cmO, Cm.pay, strOp, -plen, hp, e_txt, e_st, e_pa, f_pa, g_pa]
    by_cases e_fl : x.fl = 0
    · skip
      have hv : bad2 3 x = false := by simp [bad2, e_txt, e_st, e_pa, e_fl]
      rw [hv]
      simp (maxSteps := 2000000) -implicitDefEqProofs [-getElem?_pos, List.getElem?_cons_zero, List.getElem?_cons_succ, exec, runOps, dstOk, wantedV, AM.step, evalT, evalO, evalArgs, evalParts, getF, putF, afterRegion, assignV, boxOf, newBox, hasIdsP, keepF, ofVal, ofCell, plen, pesz, callV, builtinV, lenV, binV, unV, arith, shiftI, loadV, storeV, putV, indexAddrV, live, upd, pget, pset, psetA, pagg, retag, retagP, byteAV, freezeP, freezeV, joinTags, joinTag, tags, ids, scalar, cellsLen, eqV, convV, faV, fvV, shiftBy, shiftRo, ckF, cmO, Cm.pay, strOp, -plen, hp, e_txt, e_st, e_pa, e_fl]
    · skip
      have f_fl : (((x.fl : Nat) : Int) == 0) = false := by simp; omega
      have g_fl : (((x.fl : Nat) : Int) != 0) = true := by simp; omega
      by_cases i_fl : 1 < x.fl
      · have i2 : (1 : Int) < (x.fl : Nat) := by omega
        have hv : bad2 3 x = true := by simp [bad2, e_txt, e_st, e_pa, e_fl, f_fl, g_fl, i_fl, i2]
        rw [hv]
        simp (maxSteps := 2000000) -implicitDefEqProofs [-getElem?_pos, List.getElem?_cons_zero, List.getElem?_cons_succ, exec, runOps, dstOk, wantedV, AM.step, evalT, evalO, evalArgs, evalParts, getF, putF, afterRegion, assignV, boxOf, newBox, hasIdsP, keepF, ofVal, ofCell, plen, pesz, callV, builtinV, lenV, binV, unV, arith, shiftI, loadV, storeV, putV, indexAddrV, live, upd, pget, pset, psetA, pagg, retag, retagP, byteAV, freezeP, freezeV, joinTags, joinTag, tags, ids, scalar, cellsLen, eqV, convV, faV, fvV, shiftBy, shiftRo, ckF, cmO, Cm.pay, strOp, -plen, hp, e_txt, e_st, e_pa, e_fl, f_fl, g_fl, i_fl, i2]
      · have i2 : ¬ (1 : Int) < (x.fl : Nat) := by omega
        have hv : bad2 3 x = false := by simp [bad2, e_txt, e_st, e_pa, e_fl, f_fl, g_fl, i_fl, i2]
        rw [hv]
        simp (maxSteps := 2000000) -implicitDefEqProofs [-getElem?_pos, List.getElem?_cons_zero, List.getElem?_cons_succ, exec, runOps, dstOk, wantedV, AM.step, evalT, evalO, evalArgs, evalParts, getF, putF, afterRegion, assignV, boxOf, newBox, hasIdsP, keepF, ofVal, ofCell, plen, pesz, callV, builtinV, lenV, binV, unV, arith, shiftI, loadV, storeV, putV, indexAddrV, live, upd, pget, pset, psetA, pagg, retag, retagP, byteAV, freezeP, freezeV, joinTags, joinTag, tags, ids, scalar, cellsLen, eqV, convV, faV, fvV, shiftBy, shiftRo, ckF, cmO, Cm.pay, strOp, -plen, hp, e_txt, e_st, e_pa, e_fl, f_fl, g_fl, i_fl, i2]
  · skip
    have f_st : (((x.st : Nat) : Int) == 0) = false := by simp; omega
    have g_st : (((x.st : Nat) : Int) != 0) = true := by simp; omega
    by_cases e_pa : x.pa = 0
    case neg =>
      have f_pa : (((x.pa : Nat) : Int) == 0) = false := by simp; omega
      have g_pa : (((x.pa : Nat) : Int) != 0) = true := by simp; omega
      have hv : bad2 3 x = true := by simp [bad2, e_txt, e_st, f_st, g_st, e_pa, f_pa, g_pa]
      rw [hv]
      simp (maxSteps := 2000000) -implicitDefEqProofs [-getElem?_pos, List.getElem?_cons_zero, List.getElem?_cons_succ, exec, runOps, dstOk, wantedV, AM.step, evalT, evalO, evalArgs, evalParts, getF, putF, afterRegion, assignV, boxOf, newBox, hasIdsP, keepF, ofVal, ofCell, plen, pesz, callV, builtinV, lenV, binV, unV, arith, shiftI, loadV, storeV, putV, indexAddrV, live, upd, pget, pset, psetA, pagg, retag, retagP, byteAV, freezeP, freezeV, joinTags, joinTag, tags, ids, scalar, cellsLen, eqV, convV, faV, fvV, shiftBy, shiftRo, ckF, cmO, Cm.pay, strOp, -plen, hp, e_txt, e_st, f_st, g_st, e_pa, f_pa, g_pa]
    by_cases e_fl : x.fl = 0
    · skip
      have hv : bad2 3 x = false := by simp [bad2, e_txt, e_st, f_st, g_st, e_pa, e_fl]
      rw [hv]
      simp (maxSteps := 2000000) -implicitDefEqProofs [-getElem?_pos, List.getElem?_cons_zero, List.getElem?_cons_succ, exec, runOps, dstOk, wantedV, AM.step, evalT, evalO, evalArgs, evalParts, getF, putF, afterRegion, assignV, boxOf, newBox, hasIdsP, keepF, ofVal, ofCell, plen, pesz, callV, builtinV, lenV, binV, unV, arith, shiftI, loadV, storeV, putV, indexAddrV, live, upd, pget, pset, psetA, pagg, retag, retagP, byteAV, freezeP, freezeV, joinTags, joinTag, tags, ids, scalar, cellsLen, eqV, convV, faV, fvV, shiftBy, shiftRo, ckF, cmO, Cm.pay, strOp, -plen, hp, e_txt, e_st, f_st, g_st, e_pa, e_fl]
    · skip
      have f_fl : (((x.fl : Nat) : Int) == 0) = false := by simp; omega
      have g_fl : (((x.fl : Nat) : Int) != 0) = true := by simp; omega
      by_cases i_fl : 1 < x.fl
      · have i2 : (1 : Int) < (x.fl : Nat) := by omega
        have hv : bad2 3 x = true := by simp [bad2, e_txt, e_st, f_st, g_st, e_pa, e_fl, f_fl, g_fl, i_fl, i2]
        rw [hv]
        simp (maxSteps := 2000000) -implicitDefEqProofs [-getElem?_pos, List.getElem?_cons_zero, List.getElem?_cons_succ, exec, runOps, dstOk, wantedV, AM.step, evalT, evalO, evalArgs, evalParts, getF, putF, afterRegion, assignV, boxOf, newBox, hasIdsP, keepF, ofVal, ofCell, plen, pesz, callV, builtinV, lenV, binV, unV, arith, shiftI, loadV, storeV, putV, indexAddrV, live, upd, pget, pset, psetA, pagg, retag, retagP, byteAV, freezeP, freezeV, joinTags, joinTag, tags, ids, scalar, cellsLen, eqV, convV, faV, fvV, shiftBy, shiftRo, ckF, cmO, Cm.pay, strOp, -plen, hp, e_txt, e_st, f_st, g_st, e_pa, e_fl, f_fl, g_fl, i_fl, i2]
      · have i2 : ¬ (1 : Int) < (x.fl : Nat) := by omega
        have hv : bad2 3 x = false := by simp [bad2, e_txt, e_st, f_st, g_st, e_pa, e_fl, f_fl, g_fl, i_fl, i2]
        rw [hv]
        simp (maxSteps := 2000000) -implicitDefEqProofs [-getElem?_pos, List.getElem?_cons_zero, List.getElem?_cons_succ, exec, runOps, dstOk, wantedV, AM.step, evalT, evalO, evalArgs, evalParts, getF, putF, afterRegion, assignV, boxOf, newBox, hasIdsP, keepF, ofVal, ofCell, plen, pesz, callV, builtinV, lenV, binV, unV, arith, shiftI, loadV, storeV, putV, indexAddrV, live, upd, pget, pset, psetA, pagg, retag, retagP, byteAV, freezeP, freezeV, joinTags, joinTag, tags, ids, scalar, cellsLen, eqV, convV, faV, fvV, shiftBy, shiftRo, ckF, cmO, Cm.pay, strOp, -plen, hp, e_txt, e_st, f_st, g_st, e_pa, e_fl, f_fl, g_fl, i_fl, i2]

set_option maxRecDepth 100000 in
theorem bad2_4 (hp : plen p = x.dat.length) : ∃ code, ck2O = some code ∧ Run X (evT X) 12 0 code (ckF 4) [some (cmO x (.ro c p t))] ⟨.normal, ckF 4 ++ [(53, .bool (bad2 4 x))], [some (cmO x (.ro c p t))]⟩ := by
  refine ⟨_, rfl, 0, ?_⟩
  by_cases e_txt : x.txt = []
  case neg =>
    have f_txt : (x.txt == []) = false := by simpa using e_txt
    have g_txt : (x.txt != []) = true := by simpa using e_txt
    have hv : bad2 4 x = true := by simp [bad2, e_txt, f_txt, g_txt]
    rw [hv]
    simp (maxSteps := 2000000) -implicitDefEqProofs [-getElem?_pos, List.getElem?_cons_zero, List.getElem?_cons_succ, exec, runOps, dstOk, wantedV, AM.step, evalT, evalO, evalArgs, evalParts, getF, putF, afterRegion, assignV, boxOf, newBox, hasIdsP, keepF, ofVal, ofCell, plen, pesz, callV, builtinV, lenV, binV, unV, arith, shiftI, loadV, storeV, putV, indexAddrV, live, upd, pget, pset, psetA, pagg, retag, retagP, byteAV, freezeP, freezeV, joinTags, joinTag, tags, ids, scalar, cellsLen, eqV, convV, faV, fvV, shiftBy, shiftRo, ckF, cmO, Cm.pay, strOp, -plen, hp, e_txt, f_txt, g_txt]
  by_cases e_st : x.st = 0
  · skip
    by_cases e_pa : x.pa = 0
    · skip
      by_cases e_fl : x.fl = 0
      case neg =>
        have f_fl : (((x.fl : Nat) : Int) == 0) = false := by simp; omega
        have g_fl : (((x.fl : Nat) : Int) != 0) = true := by simp; omega
        have hv : bad2 4 x = true := by simp [bad2, e_txt, e_st, e_pa, e_fl, f_fl, g_fl]
        rw [hv]
        simp (maxSteps := 2000000) -implicitDefEqProofs [-getElem?_pos, List.getElem?_cons_zero, List.getElem?_cons_succ, exec, runOps, dstOk, wantedV, AM.step, evalT, evalO, evalArgs, evalParts, getF, putF, afterRegion, assignV, boxOf, newBox, hasIdsP, keepF, ofVal, ofCell, plen, pesz, callV, builtinV, lenV, binV, unV, arith, shiftI, loadV, storeV, putV, indexAddrV, live, upd, pget, pset, psetA, pagg, retag, retagP, byteAV, freezeP, freezeV, joinTags, joinTag, tags, ids, scalar, cellsLen, eqV, convV, faV, fvV, shiftBy, shiftRo, ckF, cmO, Cm.pay, strOp, -plen, hp, e_txt, e_st, e_pa, e_fl, f_fl, g_fl]
      have hv : bad2 4 x = false := by simp [bad2, e_txt, e_st, e_pa, e_fl]
      rw [hv]
      simp (maxSteps := 2000000) -implicitDefEqProofs [-getElem?_pos, List.getElem?_cons_zero, List.getElem?_cons_succ, exec, runOps, dstOk, wantedV, AM.step, evalT, evalO, evalArgs, evalParts, getF, putF, afterRegion, assignV, boxOf, newBox, hasIdsP, keepF, ofVal, ofCell, plen, pesz, callV, builtinV, lenV, binV, unV, arith, shiftI, loadV, storeV, putV, indexAddrV, live, upd, pget, pset, psetA, pagg, retag, retagP, byteAV, freezeP, freezeV, joinTags, joinTag, tags, ids, scalar, cellsLen, eqV, convV, faV, fvV, shiftBy, shiftRo, ckF, cmO, Cm.pay, strOp, -plen, hp, e_txt, e_st, e_pa, e_fl]
    · skip
      have f_pa : (((x.pa : Nat) : Int) == 0) = false := by simp; omega
      have g_pa : (((x.pa : Nat) : Int) != 0) = true := by simp; omega
      by_cases e_fl : x.fl = 0
      case neg =>
        have f_fl : (((x.fl : Nat) : Int) == 0) = false := by simp; omega
        have g_fl : (((x.fl : Nat) : Int) != 0) = true := by simp; omega
        have hv : bad2 4 x = true := by simp [bad2, e_txt, e_st, e_pa, f_pa, g_pa, e_fl, f_fl, g_fl]
        rw [hv]
        simp (maxSteps := 2000000) -implicitDefEqProofs [-getElem?_pos, List.getElem?_cons_zero, List.getElem?_cons_succ, exec, runOps, dstOk, wantedV, AM.step, evalT, evalO, evalArgs, evalParts, getF, putF, afterRegion, assignV, boxOf, newBox, hasIdsP, keepF, ofVal, ofCell, plen, pesz, callV, builtinV, lenV, binV, unV, arith, shiftI, loadV, storeV, putV, indexAddrV, live, upd, pget, pset, psetA, pagg, retag, retagP, byteAV, freezeP, freezeV, joinTags, joinTag, tags, ids, scalar, cellsLen, eqV, convV, faV, fvV, shiftBy, shiftRo, ckF, cmO, Cm.pay, strOp, -plen, hp, e_txt, e_st, e_pa, f_pa, g_pa, e_fl, f_fl, g_fl]
      have hv : bad2 4 x = false := by simp [bad2, e_txt, e_st, e_pa, f_pa, g_pa, e_fl]
      rw [hv]
      simp (maxSteps := 2000000) -implicitDefEqProofs [-getElem?_pos, List.getElem?_cons_zero, List.getElem?_cons_succ, exec, runOps, dstOk, wantedV, AM.step, evalT, evalO, evalArgs, evalParts, getF, putF, afterRegion, assignV, boxOf, newBox, hasIdsP, keepF, ofVal, ofCell, plen, pesz, callV, builtinV, lenV, binV, unV, arith, shiftI, loadV, storeV, putV, indexAddrV, live, upd, pget, pset, psetA, pagg, retag, retagP, byteAV, freezeP, freezeV, joinTags, joinTag, tags, ids, scalar, cellsLen, eqV, convV, faV, fvV, shiftBy, shiftRo, ckF, cmO, Cm.pay, strOp, -plen, hp, e_txt, e_st, e_pa, f_pa, g_pa, e_fl]
  · skip
    have f_st : (((x.st : Nat) : Int) == 0) = false := by simp; omega
    have g_st : (((x.st : Nat) : Int) != 0) = true := by simp; omega
    by_cases e_pa : x.pa = 0
    · skip
      by_cases e_fl : x.fl = 0
      case neg =>
        have f_fl : (((x.fl : Nat) : Int) == 0) = false := by simp; omega
        have g_fl : (((x.fl : Nat) : Int) != 0) = true := by simp; omega
        have hv : bad2 4 x = true := by simp [bad2, e_txt, e_st, f_st, g_st, e_pa, e_fl, f_fl, g_fl]
        rw [hv]
        simp (maxSteps := 2000000) -implicitDefEqProofs [-getElem?_pos, List.getElem?_cons_zero, List.getElem?_cons_succ, exec, runOps, dstOk, wantedV, AM.step, evalT, evalO, evalArgs, evalParts, getF, putF, afterRegion, assignV, boxOf, newBox, hasIdsP, keepF, ofVal, ofCell, plen, pesz, callV, builtinV, lenV, binV, unV, arith, shiftI, loadV, storeV, putV, indexAddrV, live, upd, pget, pset, psetA, pagg, retag, retagP, byteAV, freezeP, freezeV, joinTags, joinTag, tags, ids, scalar, cellsLen, eqV, convV, faV, fvV, shiftBy, shiftRo, ckF, cmO, Cm.pay, strOp, -plen, hp, e_txt, e_st, f_st, g_st, e_pa, e_fl, f_fl, g_fl]
      have hv : bad2 4 x = false := by simp [bad2, e_txt, e_st, f_st, g_st, e_pa, e_fl]
      rw [hv]
      simp (maxSteps := 2000000) -implicitDefEqProofs [-getElem?_pos, List.getElem?_cons_zero, List.getElem?_cons_succ, exec, runOps, dstOk, wantedV, AM.step, evalT, evalO, evalArgs, evalParts, getF, putF, afterRegion, assignV, boxOf, newBox, hasIdsP, keepF, ofVal, ofCell, plen, pesz, callV, builtinV, lenV, binV, unV, arith, shiftI, loadV, storeV, putV, indexAddrV, live, upd, pget, pset, psetA, pagg, retag, retagP, byteAV, freezeP, freezeV, joinTags, joinTag, tags, ids, scalar, cellsLen, eqV, convV, faV, fvV, shiftBy, shiftRo, ckF, cmO, Cm.pay, strOp, -plen, hp, e_txt, e_st, f_st, g_st, e_pa, e_fl]
    · skip
      have f_pa : (((x.pa : Nat) : Int) == 0) = false := by simp; omega
      have g_pa : (((x.pa : Nat) : Int) != 0) = true := by simp; omega
      by_cases e_fl : x.fl = 0
      case neg =>
        have f_fl : (((x.fl : Nat) : Int) == 0) = false := by simp; omega
        have g_fl : (((x.fl : Nat) : Int) != 0) = true := by simp; omega
        have hv : bad2 4 x = true := by simp [bad2, e_txt, e_st, f_st, g_st, e_pa, f_pa, g_pa, e_fl, f_fl, g_fl]
        rw [hv]
        simp (maxSteps := 2000000) -implicitDefEqProofs [-getElem?_pos, List.getElem?_cons_zero, List.getElem?_cons_succ, exec, runOps, dstOk, wantedV, AM.step, evalT, evalO, evalArgs, evalParts, getF, putF, afterRegion, assignV, boxOf, newBox, hasIdsP, keepF, ofVal, ofCell, plen, pesz, callV, builtinV, lenV, binV, unV, arith, shiftI, loadV, storeV, putV, indexAddrV, live, upd, pget, pset, psetA, pagg, retag, retagP, byteAV, freezeP, freezeV, joinTags, joinTag, tags, ids, scalar, cellsLen, eqV, convV, faV, fvV, shiftBy, shiftRo, ckF, cmO, Cm.pay, strOp, -plen, hp, e_txt, e_st, f_st, g_st, e_pa, f_pa, g_pa, e_fl, f_fl, g_fl]
      have hv : bad2 4 x = false := by simp [bad2, e_txt, e_st, f_st, g_st, e_pa, f_pa, g_pa, e_fl]
      rw [hv]
      simp (maxSteps := 2000000) -implicitDefEqProofs [-getElem?_pos, List.getElem?_cons_zero, List.getElem?_cons_succ, exec, runOps, dstOk, wantedV, AM.step, evalT, evalO, evalArgs, evalParts, getF, putF, afterRegion, assignV, boxOf, newBox, hasIdsP, keepF, ofVal, ofCell, plen, pesz, callV, builtinV, lenV, binV, unV, arith, shiftI, loadV, storeV, putV, indexAddrV, live, upd, pget, pset, psetA, pagg, retag, retagP, byteAV, freezeP, freezeV, joinTags, joinTag, tags, ids, scalar, cellsLen, eqV, convV, faV, fvV, shiftBy, shiftRo, ckF, cmO, Cm.pay, strOp, -plen, hp, e_txt, e_st, f_st, g_st, e_pa, f_pa, g_pa, e_fl]

set_option maxRecDepth 100000 in
theorem bad2_5 (hp : plen p = x.dat.length) : ∃ code, ck2O = some code ∧ Run X (evT X) 12 0 code (ckF 5) [some (cmO x (.ro c p t))] ⟨.normal, ckF 5 ++ [(53, .bool (bad2 5 x))], [some (cmO x (.ro c p t))]⟩ := by
  refine ⟨_, rfl, 0, ?_⟩
  by_cases e_txt : x.txt = []
  case neg =>
    have f_txt : (x.txt == []) = false := by simpa using e_txt
    have g_txt : (x.txt != []) = true := by simpa using e_txt
    have hv : bad2 5 x = true := by simp [bad2, e_txt, f_txt, g_txt]
    rw [hv]
    simp (maxSteps := 2000000) -implicitDefEqProofs [-getElem?_pos, List.getElem?_cons_zero, List.getElem?_cons_succ, exec, runOps, dstOk, wantedV, AM.step, evalT, evalO, evalArgs, evalParts, getF, putF, afterRegion, assignV, boxOf, newBox, hasIdsP, keepF, ofVal, ofCell, plen, pesz, callV, builtinV, lenV, binV, unV, arith, shiftI, loadV, storeV, putV, indexAddrV, live, upd, pget, pset, psetA, pagg, retag, retagP, byteAV, freezeP, freezeV, joinTags, joinTag, tags, ids, scalar, cellsLen, eqV, convV, faV, fvV, shiftBy, shiftRo, ckF, cmO, Cm.pay, strOp, -plen, hp, e_txt, f_txt, g_txt]
  by_cases e_st : x.st = 0
  · skip
    by_cases e_pa : x.pa = 0
    case neg =>
      have f_pa : (((x.pa : Nat) : Int) == 0) = false := by simp; omega
      have g_pa : (((x.pa : Nat) : Int) != 0) = true := by simp; omega
      have hv : bad2 5 x = true := by simp [bad2, e_txt, e_st, e_pa, f_pa, g_pa]
      rw [hv]
      simp (maxSteps := 2000000) -implicitDefEqProofs [-getElem?_pos, List.getElem?_cons_zero, List.getElem?_cons_succ, exec, runOps, dstOk, wantedV, AM.step, evalT, evalO, evalArgs, evalParts, getF, putF, afterRegion, assignV, boxOf, newBox, hasIdsP, keepF, ofVal, ofCell, plen, pesz, callV, builtinV, lenV, binV, unV, arith, shiftI, loadV, storeV, putV, indexAddrV, live, upd, pget, pset, psetA, pagg, retag, retagP, byteAV, freezeP, freezeV, joinTags, joinTag, tags, ids, scalar, cellsLen, eqV, convV, faV, fvV, shiftBy, shiftRo, ckF, cmO, Cm.pay, strOp, -plen, hp, e_txt, e_st, e_pa, f_pa, g_pa]
    by_cases e_fl : x.fl = 0
    case neg =>
      have f_fl : (((x.fl : Nat) : Int) == 0) = false := by simp; omega
      have g_fl : (((x.fl : Nat) : Int) != 0) = true := by simp; omega
      have hv : bad2 5 x = true := by simp [bad2, e_txt, e_st, e_pa, e_fl, f_fl, g_fl]
      rw [hv]
      simp (maxSteps := 2000000) -implicitDefEqProofs [-getElem?_pos, List.getElem?_cons_zero, List.getElem?_cons_succ, exec, runOps, dstOk, wantedV, AM.step, evalT, evalO, evalArgs, evalParts, getF, putF, afterRegion, assignV, boxOf, newBox, hasIdsP, keepF, ofVal, ofCell, plen, pesz, callV, builtinV, lenV, binV, unV, arith, shiftI, loadV, storeV, putV, indexAddrV, live, upd, pget, pset, psetA, pagg, retag, retagP, byteAV, freezeP, freezeV, joinTags, joinTag, tags, ids, scalar, cellsLen, eqV, convV, faV, fvV, shiftBy, shiftRo, ckF, cmO, Cm.pay, strOp, -plen, hp, e_txt, e_st, e_pa, e_fl, f_fl, g_fl]
    have hv : bad2 5 x = false := by simp [bad2, e_txt, e_st, e_pa, e_fl]
    rw [hv]
    simp (maxSteps := 2000000) -implicitDefEqProofs [-getElem?_pos, List.getElem?_cons_zero, List.getElem?_cons_succ, exec, runOps, dstOk, wantedV, AM.step, evalT, evalO, evalArgs, evalParts, getF, putF, afterRegion, assignV, boxOf, newBox, hasIdsP, keepF, ofVal, ofCell, plen, pesz, callV, builtinV, lenV, binV, unV, arith, shiftI, loadV, storeV, putV, indexAddrV, live, upd, pget, pset, psetA, pagg, retag, retagP, byteAV, freezeP, freezeV, joinTags, joinTag, tags, ids, scalar, cellsLen, eqV, convV, faV, fvV, shiftBy, shiftRo, ckF, cmO, Cm.pay, strOp, -plen, hp, e_txt, e_st, e_pa, e_fl]
  · skip
    have f_st : (((x.st : Nat) : Int) == 0) = false := by simp; omega
    have g_st : (((x.st : Nat) : Int) != 0) = true := by simp; omega
    by_cases e_pa : x.pa = 0
    case neg =>
      have f_pa : (((x.pa : Nat) : Int) == 0) = false := by simp; omega
      have g_pa : (((x.pa : Nat) : Int) != 0) = true := by simp; omega
      have hv : bad2 5 x = true := by simp [bad2, e_txt, e_st, f_st, g_st, e_pa, f_pa, g_pa]
      rw [hv]
      simp (maxSteps := 2000000) -implicitDefEqProofs [-getElem?_pos, List.getElem?_cons_zero, List.getElem?_cons_succ, exec, runOps, dstOk, wantedV, AM.step, evalT, evalO, evalArgs, evalParts, getF, putF, afterRegion, assignV, boxOf, newBox, hasIdsP, keepF, ofVal, ofCell, plen, pesz, callV, builtinV, lenV, binV, unV, arith, shiftI, loadV, storeV, putV, indexAddrV, live, upd, pget, pset, psetA, pagg, retag, retagP, byteAV, freezeP, freezeV, joinTags, joinTag, tags, ids, scalar, cellsLen, eqV, convV, faV, fvV, shiftBy, shiftRo, ckF, cmO, Cm.pay, strOp, -plen, hp, e_txt, e_st, f_st, g_st, e_pa, f_pa, g_pa]
    by_cases e_fl : x.fl = 0
    case neg =>
      have f_fl : (((x.fl : Nat) : Int) == 0) = false := by simp; omega
      have g_fl : (((x.fl : Nat) : Int) != 0) = true := by simp; omega
      have hv : bad2 5 x = true := by simp [bad2, e_txt, e_st, f_st, g_st, e_pa, e_fl, f_fl, g_fl]
      rw [hv]
      simp (maxSteps := 2000000) -implicitDefEqProofs [-getElem?_pos, List.getElem?_cons_zero, List.getElem?_cons_succ, exec, runOps, dstOk, wantedV, AM.step, evalT, evalO, evalArgs, evalParts, getF, putF, afterRegion, assignV, boxOf, newBox, hasIdsP, keepF, ofVal, ofCell, plen, pesz, callV, builtinV, lenV, binV, unV, arith, shiftI, loadV, storeV, putV, indexAddrV, live, upd, pget, pset, psetA, pagg, retag, retagP, byteAV, freezeP, freezeV, joinTags, joinTag, tags, ids, scalar, cellsLen, eqV, convV, faV, fvV, shiftBy, shiftRo, ckF, cmO, Cm.pay, strOp, -plen, hp, e_txt, e_st, f_st, g_st, e_pa, e_fl, f_fl, g_fl]
    have hv : bad2 5 x = false := by simp [bad2, e_txt, e_st, f_st, g_st, e_pa, e_fl]
    rw [hv]
    simp (maxSteps := 2000000) -implicitDefEqProofs [-getElem?_pos, List.getElem?_cons_zero, List.getElem?_cons_succ, exec, runOps, dstOk, wantedV, AM.step, evalT, evalO, evalArgs, evalParts, getF, putF, afterRegion, assignV, boxOf, newBox, hasIdsP, keepF, ofVal, ofCell, plen, pesz, callV, builtinV, lenV, binV, unV, arith, shiftI, loadV, storeV, putV, indexAddrV, live, upd, pget, pset, psetA, pagg, retag, retagP, byteAV, freezeP, freezeV, joinTags, joinTag, tags, ids, scalar, cellsLen, eqV, convV, faV, fvV, shiftBy, shiftRo, ckF, cmO, Cm.pay, strOp, -plen, hp, e_txt, e_st, f_st, g_st, e_pa, e_fl]

set_option maxRecDepth 100000 in
theorem bad2_6 (hp : plen p = x.dat.length) : ∃ code, ck2O = some code ∧ Run X (evT X) 12 0 code (ckF 6) [some (cmO x (.ro c p t))] ⟨.normal, ckF 6 ++ [(53, .bool (bad2 6 x))], [some (cmO x (.ro c p t))]⟩ := by
  refine ⟨_, rfl, 0, ?_⟩
  by_cases e_txt : x.txt = []
  case neg =>
    have f_txt : (x.txt == []) = false := by simpa using e_txt
    have g_txt : (x.txt != []) = true := by simpa using e_txt
    have hv : bad2 6 x = true := by simp [bad2, e_txt, f_txt, g_txt]
    rw [hv]
    simp (maxSteps := 2000000) -implicitDefEqProofs [-getElem?_pos, List.getElem?_cons_zero, List.getElem?_cons_succ, exec, runOps, dstOk, wantedV, AM.step, evalT, evalO, evalArgs, evalParts, getF, putF, afterRegion, assignV, boxOf, newBox, hasIdsP, keepF, ofVal, ofCell, plen, pesz, callV, builtinV, lenV, binV, unV, arith, shiftI, loadV, storeV, putV, indexAddrV, live, upd, pget, pset, psetA, pagg, retag, retagP, byteAV, freezeP, freezeV, joinTags, joinTag, tags, ids, scalar, cellsLen, eqV, convV, faV, fvV, shiftBy, shiftRo, ckF, cmO, Cm.pay, strOp, -plen, hp, e_txt, f_txt, g_txt]
  by_cases e_st : x.st = 0
  case neg =>
    have f_st : (((x.st : Nat) : Int) == 0) = false := by simp; omega
    have g_st : (((x.st : Nat) : Int) != 0) = true := by simp; omega
    have hv : bad2 6 x = true := by simp [bad2, e_txt, e_st, f_st, g_st]
    rw [hv]
    simp (maxSteps := 2000000) -implicitDefEqProofs [-getElem?_pos, List.getElem?_cons_zero, List.getElem?_cons_succ, exec, runOps, dstOk, wantedV, AM.step, evalT, evalO, evalArgs, evalParts, getF, putF, afterRegion, assignV, boxOf, newBox, hasIdsP, keepF, ofVal, ofCell, plen, pesz, callV, builtinV, lenV, binV, unV, arith, shiftI, loadV, storeV, putV, indexAddrV, live, upd, pget, pset, psetA, pagg, retag, retagP, byteAV, freezeP, freezeV, joinTags, joinTag, tags, ids, scalar, cellsLen, eqV, convV, faV, fvV, shiftBy, shiftRo, ckF, cmO, Cm.pay, strOp, -plen, hp, e_txt, e_st, f_st, g_st]
  by_cases e_pa : x.pa = 0
  case neg =>
    have f_pa : (((x.pa : Nat) : Int) == 0) = false := by simp; omega
    have g_pa : (((x.pa : Nat) : Int) != 0) = true := by simp; omega
    have hv : bad2 6 x = true := by simp [bad2, e_txt, e_st, e_pa, f_pa, g_pa]
    rw [hv]
    simp (maxSteps := 2000000) -implicitDefEqProofs [-getElem?_pos, List.getElem?_cons_zero, List.getElem?_cons_succ, exec, runOps, dstOk, wantedV, AM.step, evalT, evalO, evalArgs, evalParts, getF, putF, afterRegion, assignV, boxOf, newBox, hasIdsP, keepF, ofVal, ofCell, plen, pesz, callV, builtinV, lenV, binV, unV, arith, shiftI, loadV, storeV, putV, indexAddrV, live, upd, pget, pset, psetA, pagg, retag, retagP, byteAV, freezeP, freezeV, joinTags, joinTag, tags, ids, scalar, cellsLen, eqV, convV, faV, fvV, shiftBy, shiftRo, ckF, cmO, Cm.pay, strOp, -plen, hp, e_txt, e_st, e_pa, f_pa, g_pa]
  by_cases e_fl : x.fl = 0
  case neg =>
    have f_fl : (((x.fl : Nat) : Int) == 0) = false := by simp; omega
    have g_fl : (((x.fl : Nat) : Int) != 0) = true := by simp; omega
    have hv : bad2 6 x = true := by simp [bad2, e_txt, e_st, e_pa, e_fl, f_fl, g_fl]
    rw [hv]
    simp (maxSteps := 2000000) -implicitDefEqProofs [-getElem?_pos, List.getElem?_cons_zero, List.getElem?_cons_succ, exec, runOps, dstOk, wantedV, AM.step, evalT, evalO, evalArgs, evalParts, getF, putF, afterRegion, assignV, boxOf, newBox, hasIdsP, keepF, ofVal, ofCell, plen, pesz, callV, builtinV, lenV, binV, unV, arith, shiftI, loadV, storeV, putV, indexAddrV, live, upd, pget, pset, psetA, pagg, retag, retagP, byteAV, freezeP, freezeV, joinTags, joinTag, tags, ids, scalar, cellsLen, eqV, convV, faV, fvV, shiftBy, shiftRo, ckF, cmO, Cm.pay, strOp, -plen, hp, e_txt, e_st, e_pa, e_fl, f_fl, g_fl]
  have hv : bad2 6 x = false := by simp [bad2, e_txt, e_st, e_pa, e_fl]
  rw [hv]
  simp (maxSteps := 2000000) -implicitDefEqProofs [-getElem?_pos, List.getElem?_cons_zero, List.getElem?_cons_succ, exec, runOps, dstOk, wantedV, AM.step, evalT, evalO, evalArgs, evalParts, getF, putF, afterRegion, assignV, boxOf, newBox, hasIdsP, keepF, ofVal, ofCell, plen, pesz, callV, builtinV, lenV, binV, unV, arith, shiftI, loadV, storeV, putV, indexAddrV, live, upd, pget, pset, psetA, pagg, retag, retagP, byteAV, freezeP, freezeV, joinTags, joinTag, tags, ids, scalar, cellsLen, eqV, convV, faV, fvV, shiftBy, shiftRo, ckF, cmO, Cm.pay, strOp, -plen, hp, e_txt, e_st, e_pa, e_fl]

set_option maxRecDepth 100000 in
theorem bad2_7 (hp : plen p = x.dat.length) : ∃ code, ck2O = some code ∧ Run X (evT X) 12 0 code (ckF 7) [some (cmO x (.ro c p t))] ⟨.normal, ckF 7 ++ [(53, .bool (bad2 7 x))], [some (cmO x (.ro c p t))]⟩ := by
  refine ⟨_, rfl, 0, ?_⟩
  by_cases e_txt : x.txt = []
  case neg =>
    have f_txt : (x.txt == []) = false := by simpa using e_txt
    have g_txt : (x.txt != []) = true := by simpa using e_txt
    have hv : bad2 7 x = true := by simp [bad2, e_txt, f_txt, g_txt]
    rw [hv]
    simp (maxSteps := 2000000) -implicitDefEqProofs [-getElem?_pos, List.getElem?_cons_zero, List.getElem?_cons_succ, exec, runOps, dstOk, wantedV, AM.step, evalT, evalO, evalArgs, evalParts, getF, putF, afterRegion, assignV, boxOf, newBox, hasIdsP, keepF, ofVal, ofCell, plen, pesz, callV, builtinV, lenV, binV, unV, arith, shiftI, loadV, storeV, putV, indexAddrV, live, upd, pget, pset, psetA, pagg, retag, retagP, byteAV, freezeP, freezeV, joinTags, joinTag, tags, ids, scalar, cellsLen, eqV, convV, faV, fvV, shiftBy, shiftRo, ckF, cmO, Cm.pay, strOp, -plen, hp, e_txt, f_txt, g_txt]
  by_cases e_st : x.st = 0
  · skip
    by_cases e_pa : x.pa = 0
    case neg =>
      have f_pa : (((x.pa : Nat) : Int) == 0) = false := by simp; omega
      have g_pa : (((x.pa : Nat) : Int) != 0) = true := by simp; omega
      have hv : bad2 7 x = true := by simp [bad2, e_txt, e_st, e_pa, f_pa, g_pa]
      rw [hv]
      simp (maxSteps := 2000000) -implicitDefEqProofs [-getElem?_pos, List.getElem?_cons_zero, List.getElem?_cons_succ, exec, runOps, dstOk, wantedV, AM.step, evalT, evalO, evalArgs, evalParts, getF, putF, afterRegion, assignV, boxOf, newBox, hasIdsP, keepF, ofVal, ofCell, plen, pesz, callV, builtinV, lenV, binV, unV, arith, shiftI, loadV, storeV, putV, indexAddrV, live, upd, pget, pset, psetA, pagg, retag, retagP, byteAV, freezeP, freezeV, joinTags, joinTag, tags, ids, scalar, cellsLen, eqV, convV, faV, fvV, shiftBy, shiftRo, ckF, cmO, Cm.pay, strOp, -plen, hp, e_txt, e_st, e_pa, f_pa, g_pa]
    by_cases e_fl : x.fl = 0
    case neg =>
      have f_fl : (((x.fl : Nat) : Int) == 0) = false := by simp; omega
      have g_fl : (((x.fl : Nat) : Int) != 0) = true := by simp; omega
      have hv : bad2 7 x = true := by simp [bad2, e_txt, e_st, e_pa, e_fl, f_fl, g_fl]
      rw [hv]
      simp (maxSteps := 2000000) -implicitDefEqProofs [-getElem?_pos, List.getElem?_cons_zero, List.getElem?_cons_succ, exec, runOps, dstOk, wantedV, AM.step, evalT, evalO, evalArgs, evalParts, getF, putF, afterRegion, assignV, boxOf, newBox, hasIdsP, keepF, ofVal, ofCell, plen, pesz, callV, builtinV, lenV, binV, unV, arith, shiftI, loadV, storeV, putV, indexAddrV, live, upd, pget, pset, psetA, pagg, retag, retagP, byteAV, freezeP, freezeV, joinTags, joinTag, tags, ids, scalar, cellsLen, eqV, convV, faV, fvV, shiftBy, shiftRo, ckF, cmO, Cm.pay, strOp, -plen, hp, e_txt, e_st, e_pa, e_fl, f_fl, g_fl]
    have hv : bad2 7 x = false := by simp [bad2, e_txt, e_st, e_pa, e_fl]
    rw [hv]
    simp (maxSteps := 2000000) -implicitDefEqProofs [-getElem?_pos, List.getElem?_cons_zero, List.getElem?_cons_succ, exec, runOps, dstOk, wantedV, AM.step, evalT, evalO, evalArgs, evalParts, getF, putF, afterRegion, assignV, boxOf, newBox, hasIdsP, keepF, ofVal, ofCell, plen, pesz, callV, builtinV, lenV, binV, unV, arith, shiftI, loadV, storeV, putV, indexAddrV, live, upd, pget, pset, psetA, pagg, retag, retagP, byteAV, freezeP, freezeV, joinTags, joinTag, tags, ids, scalar, cellsLen, eqV, convV, faV, fvV, shiftBy, shiftRo, ckF, cmO, Cm.pay, strOp, -plen, hp, e_txt, e_st, e_pa, e_fl]
  · skip
    have f_st : (((x.st : Nat) : Int) == 0) = false := by simp; omega
    have g_st : (((x.st : Nat) : Int) != 0) = true := by simp; omega
    by_cases e_pa : x.pa = 0
    case neg =>
      have f_pa : (((x.pa : Nat) : Int) == 0) = false := by simp; omega
      have g_pa : (((x.pa : Nat) : Int) != 0) = true := by simp; omega
      have hv : bad2 7 x = true := by simp [bad2, e_txt, e_st, f_st, g_st, e_pa, f_pa, g_pa]
      rw [hv]
      simp (maxSteps := 2000000) -implicitDefEqProofs [-getElem?_pos, List.getElem?_cons_zero, List.getElem?_cons_succ, exec, runOps, dstOk, wantedV, AM.step, evalT, evalO, evalArgs, evalParts, getF, putF, afterRegion, assignV, boxOf, newBox, hasIdsP, keepF, ofVal, ofCell, plen, pesz, callV, builtinV, lenV, binV, unV, arith, shiftI, loadV, storeV, putV, indexAddrV, live, upd, pget, pset, psetA, pagg, retag, retagP, byteAV, freezeP, freezeV, joinTags, joinTag, tags, ids, scalar, cellsLen, eqV, convV, faV, fvV, shiftBy, shiftRo, ckF, cmO, Cm.pay, strOp, -plen, hp, e_txt, e_st, f_st, g_st, e_pa, f_pa, g_pa]
    by_cases e_fl : x.fl = 0
    case neg =>
      have f_fl : (((x.fl : Nat) : Int) == 0) = false := by simp; omega
      have g_fl : (((x.fl : Nat) : Int) != 0) = true := by simp; omega
      have hv : bad2 7 x = true := by simp [bad2, e_txt, e_st, f_st, g_st, e_pa, e_fl, f_fl, g_fl]
      rw [hv]
      simp (maxSteps := 2000000) -implicitDefEqProofs [-getElem?_pos, List.getElem?_cons_zero, List.getElem?_cons_succ, exec, runOps, dstOk, wantedV, AM.step, evalT, evalO, evalArgs, evalParts, getF, putF, afterRegion, assignV, boxOf, newBox, hasIdsP, keepF, ofVal, ofCell, plen, pesz, callV, builtinV, lenV, binV, unV, arith, shiftI, loadV, storeV, putV, indexAddrV, live, upd, pget, pset, psetA, pagg, retag, retagP, byteAV, freezeP, freezeV, joinTags, joinTag, tags, ids, scalar, cellsLen, eqV, convV, faV, fvV, shiftBy, shiftRo, ckF, cmO, Cm.pay, strOp, -plen, hp, e_txt, e_st, f_st, g_st, e_pa, e_fl, f_fl, g_fl]
    have hv : bad2 7 x = false := by simp [bad2, e_txt, e_st, f_st, g_st, e_pa, e_fl]
    rw [hv]
    simp (maxSteps := 2000000) -implicitDefEqProofs [-getElem?_pos, List.getElem?_cons_zero, List.getElem?_cons_succ, exec, runOps, dstOk, wantedV, AM.step, evalT, evalO, evalArgs, evalParts, getF, putF, afterRegion, assignV, boxOf, newBox, hasIdsP, keepF, ofVal, ofCell, plen, pesz, callV, builtinV, lenV, binV, unV, arith, shiftI, loadV, storeV, putV, indexAddrV, live, upd, pget, pset, psetA, pagg, retag, retagP, byteAV, freezeP, freezeV, joinTags, joinTag, tags, ids, scalar, cellsLen, eqV, convV, faV, fvV, shiftBy, shiftRo, ckF, cmO, Cm.pay, strOp, -plen, hp, e_txt, e_st, f_st, g_st, e_pa, e_fl]

set_option maxRecDepth 100000 in
theorem bad2_8 (hp : plen p = x.dat.length) : ∃ code, ck2O = some code ∧ Run X (evT X) 12 0 code (ckF 8) [some (cmO x (.ro c p t))] ⟨.normal, ckF 8 ++ [(53, .bool (bad2 8 x))], [some (cmO x (.ro c p t))]⟩ := by
  refine ⟨_, rfl, 0, ?_⟩
  by_cases e_txt : x.txt = []
  case neg =>
    have f_txt : (x.txt == []) = false := by simpa using e_txt
    have g_txt : (x.txt != []) = true := by simpa using e_txt
    have hv : bad2 8 x = true := by simp [bad2, e_txt, f_txt, g_txt]
    rw [hv]
    simp (maxSteps := 2000000) -implicitDefEqProofs [-getElem?_pos, List.getElem?_cons_zero, List.getElem?_cons_succ, exec, runOps, dstOk, wantedV, AM.step, evalT, evalO, evalArgs, evalParts, getF, putF, afterRegion, assignV, boxOf, newBox, hasIdsP, keepF, ofVal, ofCell, plen, pesz, callV, builtinV, lenV, binV, unV, arith, shiftI, loadV, storeV, putV, indexAddrV, live, upd, pget, pset, psetA, pagg, retag, retagP, byteAV, freezeP, freezeV, joinTags, joinTag, tags, ids, scalar, cellsLen, eqV, convV, faV, fvV, shiftBy, shiftRo, ckF, cmO, Cm.pay, strOp, -plen, hp, e_txt, f_txt, g_txt]
  by_cases e_st : x.st = 0
  case neg =>
    have f_st : (((x.st : Nat) : Int) == 0) = false := by simp; omega
    have g_st : (((x.st : Nat) : Int) != 0) = true := by simp; omega
    have hv : bad2 8 x = true := by simp [bad2, e_txt, e_st, f_st, g_st]
    rw [hv]
    simp (maxSteps := 2000000) -implicitDefEqProofs [-getElem?_pos, List.getElem?_cons_zero, List.getElem?_cons_succ, exec, runOps, dstOk, wantedV, AM.step, evalT, evalO, evalArgs, evalParts, getF, putF, afterRegion, assignV, boxOf, newBox, hasIdsP, keepF, ofVal, ofCell, plen, pesz, callV, builtinV, lenV, binV, unV, arith, shiftI, loadV, storeV, putV, indexAddrV, live, upd, pget, pset, psetA, pagg, retag, retagP, byteAV, freezeP, freezeV, joinTags, joinTag, tags, ids, scalar, cellsLen, eqV, convV, faV, fvV, shiftBy, shiftRo, ckF, cmO, Cm.pay, strOp, -plen, hp, e_txt, e_st, f_st, g_st]
  by_cases e_pa : x.pa = 0
  case neg =>
    have f_pa : (((x.pa : Nat) : Int) == 0) = false := by simp; omega
    have g_pa : (((x.pa : Nat) : Int) != 0) = true := by simp; omega
    have hv : bad2 8 x = true := by simp [bad2, e_txt, e_st, e_pa, f_pa, g_pa]
    rw [hv]
    simp (maxSteps := 2000000) -implicitDefEqProofs [-getElem?_pos, List.getElem?_cons_zero, List.getElem?_cons_succ, exec, runOps, dstOk, wantedV, AM.step, evalT, evalO, evalArgs, evalParts, getF, putF, afterRegion, assignV, boxOf, newBox, hasIdsP, keepF, ofVal, ofCell, plen, pesz, callV, builtinV, lenV, binV, unV, arith, shiftI, loadV, storeV, putV, indexAddrV, live, upd, pget, pset, psetA, pagg, retag, retagP, byteAV, freezeP, freezeV, joinTags, joinTag, tags, ids, scalar, cellsLen, eqV, convV, faV, fvV, shiftBy, shiftRo, ckF, cmO, Cm.pay, strOp, -plen, hp, e_txt, e_st, e_pa, f_pa, g_pa]
  by_cases e_fl : x.fl = 0
  case neg =>
    have f_fl : (((x.fl : Nat) : Int) == 0) = false := by simp; omega
    have g_fl : (((x.fl : Nat) : Int) != 0) = true := by simp; omega
    have hv : bad2 8 x = true := by simp [bad2, e_txt, e_st, e_pa, e_fl, f_fl, g_fl]
    rw [hv]
    simp (maxSteps := 2000000) -implicitDefEqProofs [-getElem?_pos, List.getElem?_cons_zero, List.getElem?_cons_succ, exec, runOps, dstOk, wantedV, AM.step, evalT, evalO, evalArgs, evalParts, getF, putF, afterRegion, assignV, boxOf, newBox, hasIdsP, keepF, ofVal, ofCell, plen, pesz, callV, builtinV, lenV, binV, unV, arith, shiftI, loadV, storeV, putV, indexAddrV, live, upd, pget, pset, psetA, pagg, retag, retagP, byteAV, freezeP, freezeV, joinTags, joinTag, tags, ids, scalar, cellsLen, eqV, convV, faV, fvV, shiftBy, shiftRo, ckF, cmO, Cm.pay, strOp, -plen, hp, e_txt, e_st, e_pa, e_fl, f_fl, g_fl]
  have hv : bad2 8 x = false := by simp [bad2, e_txt, e_st, e_pa, e_fl]
  rw [hv]
  simp (maxSteps := 2000000) -implicitDefEqProofs [-getElem?_pos, List.getElem?_cons_zero, List.getElem?_cons_succ, exec, runOps, dstOk, wantedV, AM.step, evalT, evalO, evalArgs, evalParts, getF, putF, afterRegion, assignV, boxOf, newBox, hasIdsP, keepF, ofVal, ofCell, plen, pesz, callV, builtinV, lenV, binV, unV, arith, shiftI, loadV, storeV, putV, indexAddrV, live, upd, pget, pset, psetA, pagg, retag, retagP, byteAV, freezeP, freezeV, joinTags, joinTag, tags, ids, scalar, cellsLen, eqV, convV, faV, fvV, shiftBy, shiftRo, ckF, cmO, Cm.pay, strOp, -plen, hp, e_txt, e_st, e_pa, e_fl]

set_option maxRecDepth 100000 in
theorem bad4_0 (hp : plen p = x.dat.length) : ∃ code, ck4O = some code ∧ Run X (evT X) 12 0 code (ckF 0 ++ [(53, .bool false)]) [some (cmO x (.ro c p t))] ⟨.normal, [(91, .bool (bad4 0 x))], [some (cmO x (.ro c p t))]⟩ := by
  refine ⟨_, rfl, 0, ?_⟩
  by_cases e_co : x.co = 0
  case neg =>
    have f_co : (((x.co : Nat) : Int) == 0) = false := by simp; omega
    have g_co : (((x.co : Nat) : Int) != 0) = true := by simp; omega
    have hv : bad4 0 x = true := by simp [bad4, e_co, f_co, g_co]
    rw [hv]
    simp (maxSteps := 2000000) -implicitDefEqProofs [-getElem?_pos, List.getElem?_cons_zero, List.getElem?_cons_succ, exec, runOps, dstOk, wantedV, AM.step, evalT, evalO, evalArgs, evalParts, getF, putF, afterRegion, assignV, boxOf, newBox, hasIdsP, keepF, ofVal, ofCell, plen, pesz, callV, builtinV, lenV, binV, unV, arith, shiftI, loadV, storeV, putV, indexAddrV, live, upd, pget, pset, psetA, pagg, retag, retagP, byteAV, freezeP, freezeV, joinTags, joinTag, tags, ids, scalar, cellsLen, eqV, convV, faV, fvV, shiftBy, shiftRo, ckF, cmO, Cm.pay, strOp, -plen, hp, e_co, f_co, g_co]
  by_cases e_op : x.op = 0
  case neg =>
    have f_op : (((x.op : Nat) : Int) == 0) = false := by simp; omega
    have g_op : (((x.op : Nat) : Int) != 0) = true := by simp; omega
    have hv : bad4 0 x = true := by simp [bad4, e_co, e_op, f_op, g_op]
    rw [hv]
    simp (maxSteps := 2000000) -implicitDefEqProofs [-getElem?_pos, List.getElem?_cons_zero, List.getElem?_cons_succ, exec, runOps, dstOk, wantedV, AM.step, evalT, evalO, evalArgs, evalParts, getF, putF, afterRegion, assignV, boxOf, newBox, hasIdsP, keepF, ofVal, ofCell, plen, pesz, callV, builtinV, lenV, binV, unV, arith, shiftI, loadV, storeV, putV, indexAddrV, live, upd, pget, pset, psetA, pagg, retag, retagP, byteAV, freezeP, freezeV, joinTags, joinTag, tags, ids, scalar, cellsLen, eqV, convV, faV, fvV, shiftBy, shiftRo, ckF, cmO, Cm.pay, strOp, -plen, hp, e_co, e_op, f_op, g_op]
  by_cases e_dat : x.dat = []
  case neg =>
    have f_dat : (0 : Int) < (x.dat.length : Nat) := by have := List.length_pos_iff.2 e_dat; omega
    have g_dat : 0 < x.dat.length := List.length_pos_iff.2 e_dat
    have hv : bad4 0 x = true := by simp [bad4, e_co, e_op, e_dat, f_dat, g_dat]
    rw [hv]
    simp (maxSteps := 2000000) -implicitDefEqProofs [-getElem?_pos, List.getElem?_cons_zero, List.getElem?_cons_succ, exec, runOps, dstOk, wantedV, AM.step, evalT, evalO, evalArgs, evalParts, getF, putF, afterRegion, assignV, boxOf, newBox, hasIdsP, keepF, ofVal, ofCell, plen, pesz, callV, builtinV, lenV, binV, unV, arith, shiftI, loadV, storeV, putV, indexAddrV, live, upd, pget, pset, psetA, pagg, retag, retagP, byteAV, freezeP, freezeV, joinTags, joinTag, tags, ids, scalar, cellsLen, eqV, convV, faV, fvV, shiftBy, shiftRo, ckF, cmO, Cm.pay, strOp, -plen, hp, e_co, e_op, e_dat, f_dat, g_dat]
  have hv : bad4 0 x = false := by simp [bad4, e_co, e_op, e_dat]
  rw [hv]
  simp (maxSteps := 2000000) -implicitDefEqProofs [-getElem?_pos, List.getElem?_cons_zero, List.getElem?_cons_succ, exec, runOps, dstOk, wantedV, AM.step, evalT, evalO, evalArgs, evalParts, getF, putF, afterRegion, assignV, boxOf, newBox, hasIdsP, keepF, ofVal, ofCell, plen, pesz, callV, builtinV, lenV, binV, unV, arith, shiftI, loadV, storeV, putV, indexAddrV, live, upd, pget, pset, psetA, pagg, retag, retagP, byteAV, freezeP, freezeV, joinTags, joinTag, tags, ids, scalar, cellsLen, eqV, convV, faV, fvV, shiftBy, shiftRo, ckF, cmO, Cm.pay, strOp, -plen, hp, e_co, e_op, e_dat]

set_option maxRecDepth 100000 in
theorem bad4_1 (hp : plen p = x.dat.length) : ∃ code, ck4O = some code ∧ Run X (evT X) 12 0 code (ckF 1 ++ [(53, .bool false)]) [some (cmO x (.ro c p t))] ⟨.normal, [(91, .bool (bad4 1 x))], [some (cmO x (.ro c p t))]⟩ := by
  refine ⟨_, rfl, 0, ?_⟩
  by_cases e_co : x.co = 0
  case neg =>
    have f_co : (((x.co : Nat) : Int) == 0) = false := by simp; omega
    have g_co : (((x.co : Nat) : Int) != 0) = true := by simp; omega
    have hv : bad4 1 x = true := by simp [bad4, e_co, f_co, g_co]
    rw [hv]
    simp (maxSteps := 2000000) -implicitDefEqProofs [-getElem?_pos, List.getElem?_cons_zero, List.getElem?_cons_succ, exec, runOps, dstOk, wantedV, AM.step, evalT, evalO, evalArgs, evalParts, getF, putF, afterRegion, assignV, boxOf, newBox, hasIdsP, keepF, ofVal, ofCell, plen, pesz, callV, builtinV, lenV, binV, unV, arith, shiftI, loadV, storeV, putV, indexAddrV, live, upd, pget, pset, psetA, pagg, retag, retagP, byteAV, freezeP, freezeV, joinTags, joinTag, tags, ids, scalar, cellsLen, eqV, convV, faV, fvV, shiftBy, shiftRo, ckF, cmO, Cm.pay, strOp, -plen, hp, e_co, f_co, g_co]
  by_cases e_op : x.op = 0
  case neg =>
    have f_op : (((x.op : Nat) : Int) == 0) = false := by simp; omega
    have g_op : (((x.op : Nat) : Int) != 0) = true := by simp; omega
    have hv : bad4 1 x = true := by simp [bad4, e_co, e_op, f_op, g_op]
    rw [hv]
    simp (maxSteps := 2000000) -implicitDefEqProofs [-getElem?_pos, List.getElem?_cons_zero, List.getElem?_cons_succ, exec, runOps, dstOk, wantedV, AM.step, evalT, evalO, evalArgs, evalParts, getF, putF, afterRegion, assignV, boxOf, newBox, hasIdsP, keepF, ofVal, ofCell, plen, pesz, callV, builtinV, lenV, binV, unV, arith, shiftI, loadV, storeV, putV, indexAddrV, live, upd, pget, pset, psetA, pagg, retag, retagP, byteAV, freezeP, freezeV, joinTags, joinTag, tags, ids, scalar, cellsLen, eqV, convV, faV, fvV, shiftBy, shiftRo, ckF, cmO, Cm.pay, strOp, -plen, hp, e_co, e_op, f_op, g_op]
  by_cases e_dat : x.dat = []
  case neg =>
    have f_dat : (0 : Int) < (x.dat.length : Nat) := by have := List.length_pos_iff.2 e_dat; omega
    have g_dat : 0 < x.dat.length := List.length_pos_iff.2 e_dat
    have hv : bad4 1 x = true := by simp [bad4, e_co, e_op, e_dat, f_dat, g_dat]
    rw [hv]
    simp (maxSteps := 2000000) -implicitDefEqProofs [-getElem?_pos, List.getElem?_cons_zero, List.getElem?_cons_succ, exec, runOps, dstOk, wantedV, AM.step, evalT, evalO, evalArgs, evalParts, getF, putF, afterRegion, assignV, boxOf, newBox, hasIdsP, keepF, ofVal, ofCell, plen, pesz, callV, builtinV, lenV, binV, unV, arith, shiftI, loadV, storeV, putV, indexAddrV, live, upd, pget, pset, psetA, pagg, retag, retagP, byteAV, freezeP, freezeV, joinTags, joinTag, tags, ids, scalar, cellsLen, eqV, convV, faV, fvV, shiftBy, shiftRo, ckF, cmO, Cm.pay, strOp, -plen, hp, e_co, e_op, e_dat, f_dat, g_dat]
  have hv : bad4 1 x = false := by simp [bad4, e_co, e_op, e_dat]
  rw [hv]
  simp (maxSteps := 2000000) -implicitDefEqProofs [-getElem?_pos, List.getElem?_cons_zero, List.getElem?_cons_succ, exec, runOps, dstOk, wantedV, AM.step, evalT, evalO, evalArgs, evalParts, getF, putF, afterRegion, assignV, boxOf, newBox, hasIdsP, keepF, ofVal, ofCell, plen, pesz, callV, builtinV, lenV, binV, unV, arith, shiftI, loadV, storeV, putV, indexAddrV, live, upd, pget, pset, psetA, pagg, retag, retagP, byteAV, freezeP, freezeV, joinTags, joinTag, tags, ids, scalar, cellsLen, eqV, convV, faV, fvV, shiftBy, shiftRo, ckF, cmO, Cm.pay, strOp, -plen, hp, e_co, e_op, e_dat]

set_option maxRecDepth 100000 in
theorem bad4_2 (hp : plen p = x.dat.length) : ∃ code, ck4O = some code ∧ Run X (evT X) 12 0 code (ckF 2 ++ [(53, .bool false)]) [some (cmO x (.ro c p t))] ⟨.normal, [(91, .bool (bad4 2 x))], [some (cmO x (.ro c p t))]⟩ := by
  refine ⟨_, rfl, 0, ?_⟩
  by_cases e_co : x.co = 0
  · skip
    by_cases e_op : x.op = 0
    case neg =>
      have f_op : (((x.op : Nat) : Int) == 0) = false := by simp; omega
      have g_op : (((x.op : Nat) : Int) != 0) = true := by simp; omega
      have hv : bad4 2 x = true := by simp [bad4, e_co, e_op, f_op, g_op]
      rw [hv]
      simp (maxSteps := 2000000) -implicitDefEqProofs [-getElem?_pos, List.getElem?_cons_zero, List.getElem?_cons_succ, exec, runOps, dstOk, wantedV, AM.step, evalT, evalO, evalArgs, evalParts, getF, putF, afterRegion, assignV, boxOf, newBox, hasIdsP, keepF, ofVal, ofCell, plen, pesz, callV, builtinV, lenV, binV, unV, arith, shiftI, loadV, storeV, putV, indexAddrV, live, upd, pget, pset, psetA, pagg, retag, retagP, byteAV, freezeP, freezeV, joinTags, joinTag, tags, ids, scalar, cellsLen, eqV, convV, faV, fvV, shiftBy, shiftRo, ckF, cmO, Cm.pay, strOp, -plen, hp, e_co, e_op, f_op, g_op]
    by_cases e_dat : x.dat = []
    case neg =>
      have f_dat : (0 : Int) < (x.dat.length : Nat) := by have := List.length_pos_iff.2 e_dat; omega
      have g_dat : 0 < x.dat.length := List.length_pos_iff.2 e_dat
      have hv : bad4 2 x = true := by simp [bad4, e_co, e_op, e_dat, f_dat, g_dat]
      rw [hv]
      simp (maxSteps := 2000000) -implicitDefEqProofs [-getElem?_pos, List.getElem?_cons_zero, List.getElem?_cons_succ, exec, runOps, dstOk, wantedV, AM.step, evalT, evalO, evalArgs, evalParts, getF, putF, afterRegion, assignV, boxOf, newBox, hasIdsP, keepF, ofVal, ofCell, plen, pesz, callV, builtinV, lenV, binV, unV, arith, shiftI, loadV, storeV, putV, indexAddrV, live, upd, pget, pset, psetA, pagg, retag, retagP, byteAV, freezeP, freezeV, joinTags, joinTag, tags, ids, scalar, cellsLen, eqV, convV, faV, fvV, shiftBy, shiftRo, ckF, cmO, Cm.pay, strOp, -plen, hp, e_co, e_op, e_dat, f_dat, g_dat]
    have hv : bad4 2 x = false := by simp [bad4, e_co, e_op, e_dat]
    rw [hv]
    simp (maxSteps := 2000000) -implicitDefEqProofs [-getElem?_pos, List.getElem?_cons_zero, List.getElem?_cons_succ, exec, runOps, dstOk, wantedV, AM.step, evalT, evalO, evalArgs, evalParts, getF, putF, afterRegion, assignV, boxOf, newBox, hasIdsP, keepF, ofVal, ofCell, plen, pesz, callV, builtinV, lenV, binV, unV, arith, shiftI, loadV, storeV, putV, indexAddrV, live, upd, pget, pset, psetA, pagg, retag, retagP, byteAV, freezeP, freezeV, joinTags, joinTag, tags, ids, scalar, cellsLen, eqV, convV, faV, fvV, shiftBy, shiftRo, ckF, cmO, Cm.pay, strOp, -plen, hp, e_co, e_op, e_dat]
  · skip
    have f_co : (((x.co : Nat) : Int) == 0) = false := by simp; omega
    have g_co : (((x.co : Nat) : Int) != 0) = true := by simp; omega
    by_cases e_op : x.op = 0
    case neg =>
      have f_op : (((x.op : Nat) : Int) == 0) = false := by simp; omega
      have g_op : (((x.op : Nat) : Int) != 0) = true := by simp; omega
      have hv : bad4 2 x = true := by simp [bad4, e_co, f_co, g_co, e_op, f_op, g_op]
      rw [hv]
      simp (maxSteps := 2000000) -implicitDefEqProofs [-getElem?_pos, List.getElem?_cons_zero, List.getElem?_cons_succ, exec, runOps, dstOk, wantedV, AM.step, evalT, evalO, evalArgs, evalParts, getF, putF, afterRegion, assignV, boxOf, newBox, hasIdsP, keepF, ofVal, ofCell, plen, pesz, callV, builtinV, lenV, binV, unV, arith, shiftI, loadV, storeV, putV, indexAddrV, live, upd, pget, pset, psetA, pagg, retag, retagP, byteAV, freezeP, freezeV, joinTags, joinTag, tags, ids, scalar, cellsLen, eqV, convV, faV, fvV, shiftBy, shiftRo, ckF, cmO, Cm.pay, strOp, -plen, hp, e_co, f_co, g_co, e_op, f_op, g_op]
    by_cases e_dat : x.dat = []
    case neg =>
      have f_dat : (0 : Int) < (x.dat.length : Nat) := by have := List.length_pos_iff.2 e_dat; omega
      have g_dat : 0 < x.dat.length := List.length_pos_iff.2 e_dat
      have hv : bad4 2 x = true := by simp [bad4, e_co, f_co, g_co, e_op, e_dat, f_dat, g_dat]
      rw [hv]
      simp (maxSteps := 2000000) -implicitDefEqProofs [-getElem?_pos, List.getElem?_cons_zero, List.getElem?_cons_succ, exec, runOps, dstOk, wantedV, AM.step, evalT, evalO, evalArgs, evalParts, getF, putF, afterRegion, assignV, boxOf, newBox, hasIdsP, keepF, ofVal, ofCell, plen, pesz, callV, builtinV, lenV, binV, unV, arith, shiftI, loadV, storeV, putV, indexAddrV, live, upd, pget, pset, psetA, pagg, retag, retagP, byteAV, freezeP, freezeV, joinTags, joinTag, tags, ids, scalar, cellsLen, eqV, convV, faV, fvV, shiftBy, shiftRo, ckF, cmO, Cm.pay, strOp, -plen, hp, e_co, f_co, g_co, e_op, e_dat, f_dat, g_dat]
    have hv : bad4 2 x = false := by simp [bad4, e_co, f_co, g_co, e_op, e_dat]
    rw [hv]
    simp (maxSteps := 2000000) -implicitDefEqProofs [-getElem?_pos, List.getElem?_cons_zero, List.getElem?_cons_succ, exec, runOps, dstOk, wantedV, AM.step, evalT, evalO, evalArgs, evalParts, getF, putF, afterRegion, assignV, boxOf, newBox, hasIdsP, keepF, ofVal, ofCell, plen, pesz, callV, builtinV, lenV, binV, unV, arith, shiftI, loadV, storeV, putV, indexAddrV, live, upd, pget, pset, psetA, pagg, retag, retagP, byteAV, freezeP, freezeV, joinTags, joinTag, tags, ids, scalar, cellsLen, eqV, convV, faV, fvV, shiftBy, shiftRo, ckF, cmO, Cm.pay, strOp, -plen, hp, e_co, f_co, g_co, e_op, e_dat]

set_option maxRecDepth 100000 in
theorem bad4_3 (hp : plen p = x.dat.length) : ∃ code, ck4O = some code ∧ Run X (evT X) 12 0 code (ckF 3 ++ [(53, .bool false)]) [some (cmO x (.ro c p t))] ⟨.normal, [(91, .bool (bad4 3 x))], [some (cmO x (.ro c p t))]⟩ := by
  refine ⟨_, rfl, 0, ?_⟩
  by_cases e_co : x.co = 0
  case neg =>
    have f_co : (((x.co : Nat) : Int) == 0) = false := by simp; omega
    have g_co : (((x.co : Nat) : Int) != 0) = true := by simp; omega
    have hv : bad4 3 x = true := by simp [bad4, e_co, f_co, g_co]
    rw [hv]
    simp (maxSteps := 2000000) -implicitDefEqProofs [-getElem?_pos, List.getElem?_cons_zero, List.getElem?_cons_succ, exec, runOps, dstOk, wantedV, AM.step, evalT, evalO, evalArgs, evalParts, getF, putF, afterRegion, assignV, boxOf, newBox, hasIdsP, keepF, ofVal, ofCell, plen, pesz, callV, builtinV, lenV, binV, unV, arith, shiftI, loadV, storeV, putV, indexAddrV, live, upd, pget, pset, psetA, pagg, retag, retagP, byteAV, freezeP, freezeV, joinTags, joinTag, tags, ids, scalar, cellsLen, eqV, convV, faV, fvV, shiftBy, shiftRo, ckF, cmO, Cm.pay, strOp, -plen, hp, e_co, f_co, g_co]
  by_cases e_op : x.op = 0
  case neg =>
    have f_op : (((x.op : Nat) : Int) == 0) = false := by simp; omega
    have g_op : (((x.op : Nat) : Int) != 0) = true := by simp; omega
    have hv : bad4 3 x = true := by simp [bad4, e_co, e_op, f_op, g_op]
    rw [hv]
    simp (maxSteps := 2000000) -implicitDefEqProofs [-getElem?_pos, List.getElem?_cons_zero, List.getElem?_cons_succ, exec, runOps, dstOk, wantedV, AM.step, evalT, evalO, evalArgs, evalParts, getF, putF, afterRegion, assignV, boxOf, newBox, hasIdsP, keepF, ofVal, ofCell, plen, pesz, callV, builtinV, lenV, binV, unV, arith, shiftI, loadV, storeV, putV, indexAddrV, live, upd, pget, pset, psetA, pagg, retag, retagP, byteAV, freezeP, freezeV, joinTags, joinTag, tags, ids, scalar, cellsLen, eqV, convV, faV, fvV, shiftBy, shiftRo, ckF, cmO, Cm.pay, strOp, -plen, hp, e_co, e_op, f_op, g_op]
  by_cases e_dat : x.dat = []
  · skip
    have hv : bad4 3 x = false := by simp [bad4, e_co, e_op, e_dat]
    rw [hv]
    simp (maxSteps := 2000000) -implicitDefEqProofs [-getElem?_pos, List.getElem?_cons_zero, List.getElem?_cons_succ, exec, runOps, dstOk, wantedV, AM.step, evalT, evalO, evalArgs, evalParts, getF, putF, afterRegion, assignV, boxOf, newBox, hasIdsP, keepF, ofVal, ofCell, plen, pesz, callV, builtinV, lenV, binV, unV, arith, shiftI, loadV, storeV, putV, indexAddrV, live, upd, pget, pset, psetA, pagg, retag, retagP, byteAV, freezeP, freezeV, joinTags, joinTag, tags, ids, scalar, cellsLen, eqV, convV, faV, fvV, shiftBy, shiftRo, ckF, cmO, Cm.pay, strOp, -plen, hp, e_co, e_op, e_dat]
  · skip
    have f_dat : (0 : Int) < (x.dat.length : Nat) := by have := List.length_pos_iff.2 e_dat; omega
    have g_dat : 0 < x.dat.length := List.length_pos_iff.2 e_dat
    have hv : bad4 3 x = false := by simp [bad4, e_co, e_op, e_dat, f_dat, g_dat]
    rw [hv]
    simp (maxSteps := 2000000) -implicitDefEqProofs [-getElem?_pos, List.getElem?_cons_zero, List.getElem?_cons_succ, exec, runOps, dstOk, wantedV, AM.step, evalT, evalO, evalArgs, evalParts, getF, putF, afterRegion, assignV, boxOf, newBox, hasIdsP, keepF, ofVal, ofCell, plen, pesz, callV, builtinV, lenV, binV, unV, arith, shiftI, loadV, storeV, putV, indexAddrV, live, upd, pget, pset, psetA, pagg, retag, retagP, byteAV, freezeP, freezeV, joinTags, joinTag, tags, ids, scalar, cellsLen, eqV, convV, faV, fvV, shiftBy, shiftRo, ckF, cmO, Cm.pay, strOp, -plen, hp, e_co, e_op, e_dat, f_dat, g_dat]

set_option maxRecDepth 100000 in
theorem bad4_4 (hp : plen p = x.dat.length) : ∃ code, ck4O = some code ∧ Run X (evT X) 12 0 code (ckF 4 ++ [(53, .bool false)]) [some (cmO x (.ro c p t))] ⟨.normal, [(91, .bool (bad4 4 x))], [some (cmO x (.ro c p t))]⟩ := by
  refine ⟨_, rfl, 0, ?_⟩
  by_cases e_co : x.co = 0
  case neg =>
    have f_co : (((x.co : Nat) : Int) == 0) = false := by simp; omega
    have g_co : (((x.co : Nat) : Int) != 0) = true := by simp; omega
    have hv : bad4 4 x = true := by simp [bad4, e_co, f_co, g_co]
    rw [hv]
    simp (maxSteps := 2000000) -implicitDefEqProofs [-getElem?_pos, List.getElem?_cons_zero, List.getElem?_cons_succ, exec, runOps, dstOk, wantedV, AM.step, evalT, evalO, evalArgs, evalParts, getF, putF, afterRegion, assignV, boxOf, newBox, hasIdsP, keepF, ofVal, ofCell, plen, pesz, callV, builtinV, lenV, binV, unV, arith, shiftI, loadV, storeV, putV, indexAddrV, live, upd, pget, pset, psetA, pagg, retag, retagP, byteAV, freezeP, freezeV, joinTags, joinTag, tags, ids, scalar, cellsLen, eqV, convV, faV, fvV, shiftBy, shiftRo, ckF, cmO, Cm.pay, strOp, -plen, hp, e_co, f_co, g_co]
  by_cases e_op : x.op = 0
  case neg =>
    have f_op : (((x.op : Nat) : Int) == 0) = false := by simp; omega
    have g_op : (((x.op : Nat) : Int) != 0) = true := by simp; omega
    have hv : bad4 4 x = true := by simp [bad4, e_co, e_op, f_op, g_op]
    rw [hv]
    simp (maxSteps := 2000000) -implicitDefEqProofs [-getElem?_pos, List.getElem?_cons_zero, List.getElem?_cons_succ, exec, runOps, dstOk, wantedV, AM.step, evalT, evalO, evalArgs, evalParts, getF, putF, afterRegion, assignV, boxOf, newBox, hasIdsP, keepF, ofVal, ofCell, plen, pesz, callV, builtinV, lenV, binV, unV, arith, shiftI, loadV, storeV, putV, indexAddrV, live, upd, pget, pset, psetA, pagg, retag, retagP, byteAV, freezeP, freezeV, joinTags, joinTag, tags, ids, scalar, cellsLen, eqV, convV, faV, fvV, shiftBy, shiftRo, ckF, cmO, Cm.pay, strOp, -plen, hp, e_co, e_op, f_op, g_op]
  by_cases e_dat : x.dat = []
  · skip
    have hv : bad4 4 x = false := by simp [bad4, e_co, e_op, e_dat]
    rw [hv]
    simp (maxSteps := 2000000) -implicitDefEqProofs [-getElem?_pos, List.getElem?_cons_zero, List.getElem?_cons_succ, exec, runOps, dstOk, wantedV, AM.step, evalT, evalO, evalArgs, evalParts, getF, putF, afterRegion, assignV, boxOf, newBox, hasIdsP, keepF, ofVal, ofCell, plen, pesz, callV, builtinV, lenV, binV, unV, arith, shiftI, loadV, storeV, putV, indexAddrV, live, upd, pget, pset, psetA, pagg, retag, retagP, byteAV, freezeP, freezeV, joinTags, joinTag, tags, ids, scalar, cellsLen, eqV, convV, faV, fvV, shiftBy, shiftRo, ckF, cmO, Cm.pay, strOp, -plen, hp, e_co, e_op, e_dat]
  · skip
    have f_dat : (0 : Int) < (x.dat.length : Nat) := by have := List.length_pos_iff.2 e_dat; omega
    have g_dat : 0 < x.dat.length := List.length_pos_iff.2 e_dat
    have hv : bad4 4 x = false := by simp [bad4, e_co, e_op, e_dat, f_dat, g_dat]
    rw [hv]
    simp (maxSteps := 2000000) -implicitDefEqProofs [-getElem?_pos, List.getElem?_cons_zero, List.getElem?_cons_succ, exec, runOps, dstOk, wantedV, AM.step, evalT, evalO, evalArgs, evalParts, getF, putF, afterRegion, assignV, boxOf, newBox, hasIdsP, keepF, ofVal, ofCell, plen, pesz, callV, builtinV, lenV, binV, unV, arith, shiftI, loadV, storeV, putV, indexAddrV, live, upd, pget, pset, psetA, pagg, retag, retagP, byteAV, freezeP, freezeV, joinTags, joinTag, tags, ids, scalar, cellsLen, eqV, convV, faV, fvV, shiftBy, shiftRo, ckF, cmO, Cm.pay, strOp, -plen, hp, e_co, e_op, e_dat, f_dat, g_dat]

set_option maxRecDepth 100000 in
theorem bad4_5 (hp : plen p = x.dat.length) : ∃ code, ck4O = some code ∧ Run X (evT X) 12 0 code (ckF 5 ++ [(53, .bool false)]) [some (cmO x (.ro c p t))] ⟨.normal, [(91, .bool (bad4 5 x))], [some (cmO x (.ro c p t))]⟩ := by
  refine ⟨_, rfl, 0, ?_⟩
  by_cases e_co : x.co = 0
  case neg =>
    have f_co : (((x.co : Nat) : Int) == 0) = false := by simp; omega
    have g_co : (((x.co : Nat) : Int) != 0) = true := by simp; omega
    have hv : bad4 5 x = true := by simp [bad4, e_co, f_co, g_co]
    rw [hv]
    simp (maxSteps := 2000000) -implicitDefEqProofs [-getElem?_pos, List.getElem?_cons_zero, List.getElem?_cons_succ, exec, runOps, dstOk, wantedV, AM.step, evalT, evalO, evalArgs, evalParts, getF, putF, afterRegion, assignV, boxOf, newBox, hasIdsP, keepF, ofVal, ofCell, plen, pesz, callV, builtinV, lenV, binV, unV, arith, shiftI, loadV, storeV, putV, indexAddrV, live, upd, pget, pset, psetA, pagg, retag, retagP, byteAV, freezeP, freezeV, joinTags, joinTag, tags, ids, scalar, cellsLen, eqV, convV, faV, fvV, shiftBy, shiftRo, ckF, cmO, Cm.pay, strOp, -plen, hp, e_co, f_co, g_co]
  by_cases e_op : x.op = 0
  case neg =>
    have f_op : (((x.op : Nat) : Int) == 0) = false := by simp; omega
    have g_op : (((x.op : Nat) : Int) != 0) = true := by simp; omega
    have hv : bad4 5 x = true := by simp [bad4, e_co, e_op, f_op, g_op]
    rw [hv]
    simp (maxSteps := 2000000) -implicitDefEqProofs [-getElem?_pos, List.getElem?_cons_zero, List.getElem?_cons_succ, exec, runOps, dstOk, wantedV, AM.step, evalT, evalO, evalArgs, evalParts, getF, putF, afterRegion, assignV, boxOf, newBox, hasIdsP, keepF, ofVal, ofCell, plen, pesz, callV, builtinV, lenV, binV, unV, arith, shiftI, loadV, storeV, putV, indexAddrV, live, upd, pget, pset, psetA, pagg, retag, retagP, byteAV, freezeP, freezeV, joinTags, joinTag, tags, ids, scalar, cellsLen, eqV, convV, faV, fvV, shiftBy, shiftRo, ckF, cmO, Cm.pay, strOp, -plen, hp, e_co, e_op, f_op, g_op]
  by_cases e_dat : x.dat = []
  case neg =>
    have f_dat : (0 : Int) < (x.dat.length : Nat) := by have := List.length_pos_iff.2 e_dat; omega
    have g_dat : 0 < x.dat.length := List.length_pos_iff.2 e_dat
    have hv : bad4 5 x = true := by simp [bad4, e_co, e_op, e_dat, f_dat, g_dat]
    rw [hv]
    simp (maxSteps := 2000000) -implicitDefEqProofs [-getElem?_pos, List.getElem?_cons_zero, List.getElem?_cons_succ, exec, runOps, dstOk, wantedV, AM.step, evalT, evalO, evalArgs, evalParts, getF, putF, afterRegion, assignV, boxOf, newBox, hasIdsP, keepF, ofVal, ofCell, plen, pesz, callV, builtinV, lenV, binV, unV, arith, shiftI, loadV, storeV, putV, indexAddrV, live, upd, pget, pset, psetA, pagg, retag, retagP, byteAV, freezeP, freezeV, joinTags, joinTag, tags, ids, scalar, cellsLen, eqV, convV, faV, fvV, shiftBy, shiftRo, ckF, cmO, Cm.pay, strOp, -plen, hp, e_co, e_op, e_dat, f_dat, g_dat]
  have hv : bad4 5 x = false := by simp [bad4, e_co, e_op, e_dat]
  rw [hv]
  simp (maxSteps := 2000000) -implicitDefEqProofs [-getElem?_pos, List.getElem?_cons_zero, List.getElem?_cons_succ, exec, runOps, dstOk, wantedV, AM.step, evalT, evalO, evalArgs, evalParts, getF, putF, afterRegion, assignV, boxOf, newBox, hasIdsP, keepF, ofVal, ofCell, plen, pesz, callV, builtinV, lenV, binV, unV, arith, shiftI, loadV, storeV, putV, indexAddrV, live, upd, pget, pset, psetA, pagg, retag, retagP, byteAV, freezeP, freezeV, joinTags, joinTag, tags, ids, scalar, cellsLen, eqV, convV, faV, fvV, shiftBy, shiftRo, ckF, cmO, Cm.pay, strOp, -plen, hp, e_co, e_op, e_dat]

set_option maxRecDepth 100000 in
theorem bad4_6 (hp : plen p = x.dat.length) : ∃ code, ck4O = some code ∧ Run X (evT X) 12 0 code (ckF 6 ++ [(53, .bool false)]) [some (cmO x (.ro c p t))] ⟨.normal, [(91, .bool (bad4 6 x))], [some (cmO x (.ro c p t))]⟩ := by
  refine ⟨_, rfl, 0, ?_⟩
  by_cases e_co : x.co = 0
  case neg =>
    have f_co : (((x.co : Nat) : Int) == 0) = false := by simp; omega
    have g_co : (((x.co : Nat) : Int) != 0) = true := by simp; omega
    have hv : bad4 6 x = true := by simp [bad4, e_co, f_co, g_co]
    rw [hv]
    simp (maxSteps := 2000000) -implicitDefEqProofs [-getElem?_pos, List.getElem?_cons_zero, List.getElem?_cons_succ, exec, runOps, dstOk, wantedV, AM.step, evalT, evalO, evalArgs, evalParts, getF, putF, afterRegion, assignV, boxOf, newBox, hasIdsP, keepF, ofVal, ofCell, plen, pesz, callV, builtinV, lenV, binV, unV, arith, shiftI, loadV, storeV, putV, indexAddrV, live, upd, pget, pset, psetA, pagg, retag, retagP, byteAV, freezeP, freezeV, joinTags, joinTag, tags, ids, scalar, cellsLen, eqV, convV, faV, fvV, shiftBy, shiftRo, ckF, cmO, Cm.pay, strOp, -plen, hp, e_co, f_co, g_co]
  by_cases e_op : x.op = 0
  · skip
    by_cases e_dat : x.dat = []
    case neg =>
      have f_dat : (0 : Int) < (x.dat.length : Nat) := by have := List.length_pos_iff.2 e_dat; omega
      have g_dat : 0 < x.dat.length := List.length_pos_iff.2 e_dat
      have hv : bad4 6 x = true := by simp [bad4, e_co, e_op, e_dat, f_dat, g_dat]
      rw [hv]
      simp (maxSteps := 2000000) -implicitDefEqProofs [-getElem?_pos, List.getElem?_cons_zero, List.getElem?_cons_succ, exec, runOps, dstOk, wantedV, AM.step, evalT, evalO, evalArgs, evalParts, getF, putF, afterRegion, assignV, boxOf, newBox, hasIdsP, keepF, ofVal, ofCell, plen, pesz, callV, builtinV, lenV, binV, unV, arith, shiftI, loadV, storeV, putV, indexAddrV, live, upd, pget, pset, psetA, pagg, retag, retagP, byteAV, freezeP, freezeV, joinTags, joinTag, tags, ids, scalar, cellsLen, eqV, convV, faV, fvV, shiftBy, shiftRo, ckF, cmO, Cm.pay, strOp, -plen, hp, e_co, e_op, e_dat, f_dat, g_dat]
    have hv : bad4 6 x = false := by simp [bad4, e_co, e_op, e_dat]
    rw [hv]
    simp (maxSteps := 2000000) -implicitDefEqProofs [-getElem?_pos, List.getElem?_cons_zero, List.getElem?_cons_succ, exec, runOps, dstOk, wantedV, AM.step, evalT, evalO, evalArgs, evalParts, getF, putF, afterRegion, assignV, boxOf, newBox, hasIdsP, keepF, ofVal, ofCell, plen, pesz, callV, builtinV, lenV, binV, unV, arith, shiftI, loadV, storeV, putV, indexAddrV, live, upd, pget, pset, psetA, pagg, retag, retagP, byteAV, freezeP, freezeV, joinTags, joinTag, tags, ids, scalar, cellsLen, eqV, convV, faV, fvV, shiftBy, shiftRo, ckF, cmO, Cm.pay, strOp, -plen, hp, e_co, e_op, e_dat]
  · skip
    have f_op : (((x.op : Nat) : Int) == 0) = false := by simp; omega
    have g_op : (((x.op : Nat) : Int) != 0) = true := by simp; omega
    by_cases e_dat : x.dat = []
    case neg =>
      have f_dat : (0 : Int) < (x.dat.length : Nat) := by have := List.length_pos_iff.2 e_dat; omega
      have g_dat : 0 < x.dat.length := List.length_pos_iff.2 e_dat
      have hv : bad4 6 x = true := by simp [bad4, e_co, e_op, f_op, g_op, e_dat, f_dat, g_dat]
      rw [hv]
      simp (maxSteps := 2000000) -implicitDefEqProofs [-getElem?_pos, List.getElem?_cons_zero, List.getElem?_cons_succ, exec, runOps, dstOk, wantedV, AM.step, evalT, evalO, evalArgs, evalParts, getF, putF, afterRegion, assignV, boxOf, newBox, hasIdsP, keepF, ofVal, ofCell, plen, pesz, callV, builtinV, lenV, binV, unV, arith, shiftI, loadV, storeV, putV, indexAddrV, live, upd, pget, pset, psetA, pagg, retag, retagP, byteAV, freezeP, freezeV, joinTags, joinTag, tags, ids, scalar, cellsLen, eqV, convV, faV, fvV, shiftBy, shiftRo, ckF, cmO, Cm.pay, strOp, -plen, hp, e_co, e_op, f_op, g_op, e_dat, f_dat, g_dat]
    have hv : bad4 6 x = false := by simp [bad4, e_co, e_op, f_op, g_op, e_dat]
    rw [hv]
    simp (maxSteps := 2000000) -implicitDefEqProofs [-getElem?_pos, List.getElem?_cons_zero, List.getElem?_cons_succ, exec, runOps, dstOk, wantedV, AM.step, evalT, evalO, evalArgs, evalParts, getF, putF, afterRegion, assignV, boxOf, newBox, hasIdsP, keepF, ofVal, ofCell, plen, pesz, callV, builtinV, lenV, binV, unV, arith, shiftI, loadV, storeV, putV, indexAddrV, live, upd, pget, pset, psetA, pagg, retag, retagP, byteAV, freezeP, freezeV, joinTags, joinTag, tags, ids, scalar, cellsLen, eqV, convV, faV, fvV, shiftBy, shiftRo, ckF, cmO, Cm.pay, strOp, -plen, hp, e_co, e_op, f_op, g_op, e_dat]

set_option maxRecDepth 100000 in
theorem bad4_7 (hp : plen p = x.dat.length) : ∃ code, ck4O = some code ∧ Run X (evT X) 12 0 code (ckF 7 ++ [(53, .bool false)]) [some (cmO x (.ro c p t))] ⟨.normal, [(91, .bool (bad4 7 x))], [some (cmO x (.ro c p t))]⟩ := by
  refine ⟨_, rfl, 0, ?_⟩
  by_cases e_co : x.co = 0
  · skip
    by_cases e_op : x.op = 0
    case neg =>
      have f_op : (((x.op : Nat) : Int) == 0) = false := by simp; omega
      have g_op : (((x.op : Nat) : Int) != 0) = true := by simp; omega
      have hv : bad4 7 x = true := by simp [bad4, e_co, e_op, f_op, g_op]
      rw [hv]
      simp (maxSteps := 2000000) -implicitDefEqProofs [-getElem?_pos, List.getElem?_cons_zero, List.getElem?_cons_succ, exec, runOps, dstOk, wantedV, AM.step, evalT, evalO, evalArgs, evalParts, getF, putF, afterRegion, assignV, boxOf, newBox, hasIdsP, keepF, ofVal, ofCell, plen, pesz, callV, builtinV, lenV, binV, unV, arith, shiftI, loadV, storeV, putV, indexAddrV, live, upd, pget, pset, psetA, pagg, retag, retagP, byteAV, freezeP, freezeV, joinTags, joinTag, tags, ids, scalar, cellsLen, eqV, convV, faV, fvV, shiftBy, shiftRo, ckF, cmO, Cm.pay, strOp, -plen, hp, e_co, e_op, f_op, g_op]
    by_cases e_dat : x.dat = []
    case neg =>
      have f_dat : (0 : Int) < (x.dat.length : Nat) := by have := List.length_pos_iff.2 e_dat; omega
      have g_dat : 0 < x.dat.length := List.length_pos_iff.2 e_dat
      have hv : bad4 7 x = true := by simp [bad4, e_co, e_op, e_dat, f_dat, g_dat]
      rw [hv]
      simp (maxSteps := 2000000) -implicitDefEqProofs [-getElem?_pos, List.getElem?_cons_zero, List.getElem?_cons_succ, exec, runOps, dstOk, wantedV, AM.step, evalT, evalO, evalArgs, evalParts, getF, putF, afterRegion, assignV, boxOf, newBox, hasIdsP, keepF, ofVal, ofCell, plen, pesz, callV, builtinV, lenV, binV, unV, arith, shiftI, loadV, storeV, putV, indexAddrV, live, upd, pget, pset, psetA, pagg, retag, retagP, byteAV, freezeP, freezeV, joinTags, joinTag, tags, ids, scalar, cellsLen, eqV, convV, faV, fvV, shiftBy, shiftRo, ckF, cmO, Cm.pay, strOp, -plen, hp, e_co, e_op, e_dat, f_dat, g_dat]
    have hv : bad4 7 x = false := by simp [bad4, e_co, e_op, e_dat]
    rw [hv]
    simp (maxSteps := 2000000) -implicitDefEqProofs [-getElem?_pos, List.getElem?_cons_zero, List.getElem?_cons_succ, exec, runOps, dstOk, wantedV, AM.step, evalT, evalO, evalArgs, evalParts, getF, putF, afterRegion, assignV, boxOf, newBox, hasIdsP, keepF, ofVal, ofCell, plen, pesz, callV, builtinV, lenV, binV, unV, arith, shiftI, loadV, storeV, putV, indexAddrV, live, upd, pget, pset, psetA, pagg, retag, retagP, byteAV, freezeP, freezeV, joinTags, joinTag, tags, ids, scalar, cellsLen, eqV, convV, faV, fvV, shiftBy, shiftRo, ckF, cmO, Cm.pay, strOp, -plen, hp, e_co, e_op, e_dat]
  · skip
    have f_co : (((x.co : Nat) : Int) == 0) = false := by simp; omega
    have g_co : (((x.co : Nat) : Int) != 0) = true := by simp; omega
    by_cases e_op : x.op = 0
    case neg =>
      have f_op : (((x.op : Nat) : Int) == 0) = false := by simp; omega
      have g_op : (((x.op : Nat) : Int) != 0) = true := by simp; omega
      have hv : bad4 7 x = true := by simp [bad4, e_co, f_co, g_co, e_op, f_op, g_op]
      rw [hv]
      simp (maxSteps := 2000000) -implicitDefEqProofs [-getElem?_pos, List.getElem?_cons_zero, List.getElem?_cons_succ, exec, runOps, dstOk, wantedV, AM.step, evalT, evalO, evalArgs, evalParts, getF, putF, afterRegion, assignV, boxOf, newBox, hasIdsP, keepF, ofVal, ofCell, plen, pesz, callV, builtinV, lenV, binV, unV, arith, shiftI, loadV, storeV, putV, indexAddrV, live, upd, pget, pset, psetA, pagg, retag, retagP, byteAV, freezeP, freezeV, joinTags, joinTag, tags, ids, scalar, cellsLen, eqV, convV, faV, fvV, shiftBy, shiftRo, ckF, cmO, Cm.pay, strOp, -plen, hp, e_co, f_co, g_co, e_op, f_op, g_op]
    by_cases e_dat : x.dat = []
    case neg =>
      have f_dat : (0 : Int) < (x.dat.length : Nat) := by have := List.length_pos_iff.2 e_dat; omega
      have g_dat : 0 < x.dat.length := List.length_pos_iff.2 e_dat
      have hv : bad4 7 x = true := by simp [bad4, e_co, f_co, g_co, e_op, e_dat, f_dat, g_dat]
      rw [hv]
      simp (maxSteps := 2000000) -implicitDefEqProofs [-getElem?_pos, List.getElem?_cons_zero, List.getElem?_cons_succ, exec, runOps, dstOk, wantedV, AM.step, evalT, evalO, evalArgs, evalParts, getF, putF, afterRegion, assignV, boxOf, newBox, hasIdsP, keepF, ofVal, ofCell, plen, pesz, callV, builtinV, lenV, binV, unV, arith, shiftI, loadV, storeV, putV, indexAddrV, live, upd, pget, pset, psetA, pagg, retag, retagP, byteAV, freezeP, freezeV, joinTags, joinTag, tags, ids, scalar, cellsLen, eqV, convV, faV, fvV, shiftBy, shiftRo, ckF, cmO, Cm.pay, strOp, -plen, hp, e_co, f_co, g_co, e_op, e_dat, f_dat, g_dat]
    have hv : bad4 7 x = false := by simp [bad4, e_co, f_co, g_co, e_op, e_dat]
    rw [hv]
    simp (maxSteps := 2000000) -implicitDefEqProofs [-getElem?_pos, List.getElem?_cons_zero, List.getElem?_cons_succ, exec, runOps, dstOk, wantedV, AM.step, evalT, evalO, evalArgs, evalParts, getF, putF, afterRegion, assignV, boxOf, newBox, hasIdsP, keepF, ofVal, ofCell, plen, pesz, callV, builtinV, lenV, binV, unV, arith, shiftI, loadV, storeV, putV, indexAddrV, live, upd, pget, pset, psetA, pagg, retag, retagP, byteAV, freezeP, freezeV, joinTags, joinTag, tags, ids, scalar, cellsLen, eqV, convV, faV, fvV, shiftBy, shiftRo, ckF, cmO, Cm.pay, strOp, -plen, hp, e_co, f_co, g_co, e_op, e_dat]

set_option maxRecDepth 100000 in
theorem bad4_8 (hp : plen p = x.dat.length) : ∃ code, ck4O = some code ∧ Run X (evT X) 12 0 code (ckF 8 ++ [(53, .bool false)]) [some (cmO x (.ro c p t))] ⟨.normal, [(91, .bool (bad4 8 x))], [some (cmO x (.ro c p t))]⟩ := by
  refine ⟨_, rfl, 0, ?_⟩
  by_cases e_co : x.co = 0
  case neg =>
    have f_co : (((x.co : Nat) : Int) == 0) = false := by simp; omega
    have g_co : (((x.co : Nat) : Int) != 0) = true := by simp; omega
    have hv : bad4 8 x = true := by simp [bad4, e_co, f_co, g_co]
    rw [hv]
    simp (maxSteps := 2000000) -implicitDefEqProofs [-getElem?_pos, List.getElem?_cons_zero, List.getElem?_cons_succ, exec, runOps, dstOk, wantedV, AM.step, evalT, evalO, evalArgs, evalParts, getF, putF, afterRegion, assignV, boxOf, newBox, hasIdsP, keepF, ofVal, ofCell, plen, pesz, callV, builtinV, lenV, binV, unV, arith, shiftI, loadV, storeV, putV, indexAddrV, live, upd, pget, pset, psetA, pagg, retag, retagP, byteAV, freezeP, freezeV, joinTags, joinTag, tags, ids, scalar, cellsLen, eqV, convV, faV, fvV, shiftBy, shiftRo, ckF, cmO, Cm.pay, strOp, -plen, hp, e_co, f_co, g_co]
  by_cases e_op : x.op = 0
  case neg =>
    have f_op : (((x.op : Nat) : Int) == 0) = false := by simp; omega
    have g_op : (((x.op : Nat) : Int) != 0) = true := by simp; omega
    have hv : bad4 8 x = true := by simp [bad4, e_co, e_op, f_op, g_op]
    rw [hv]
    simp (maxSteps := 2000000) -implicitDefEqProofs [-getElem?_pos, List.getElem?_cons_zero, List.getElem?_cons_succ, exec, runOps, dstOk, wantedV, AM.step, evalT, evalO, evalArgs, evalParts, getF, putF, afterRegion, assignV, boxOf, newBox, hasIdsP, keepF, ofVal, ofCell, plen, pesz, callV, builtinV, lenV, binV, unV, arith, shiftI, loadV, storeV, putV, indexAddrV, live, upd, pget, pset, psetA, pagg, retag, retagP, byteAV, freezeP, freezeV, joinTags, joinTag, tags, ids, scalar, cellsLen, eqV, convV, faV, fvV, shiftBy, shiftRo, ckF, cmO, Cm.pay, strOp, -plen, hp, e_co, e_op, f_op, g_op]
  by_cases e_dat : x.dat = []
  · skip
    have hv : bad4 8 x = false := by simp [bad4, e_co, e_op, e_dat]
    rw [hv]
    simp (maxSteps := 2000000) -implicitDefEqProofs [-getElem?_pos, List.getElem?_cons_zero, List.getElem?_cons_succ, exec, runOps, dstOk, wantedV, AM.step, evalT, evalO, evalArgs, evalParts, getF, putF, afterRegion, assignV, boxOf, newBox, hasIdsP, keepF, ofVal, ofCell, plen, pesz, callV, builtinV, lenV, binV, unV, arith, shiftI, loadV, storeV, putV, indexAddrV, live, upd, pget, pset, psetA, pagg, retag, retagP, byteAV, freezeP, freezeV, joinTags, joinTag, tags, ids, scalar, cellsLen, eqV, convV, faV, fvV, shiftBy, shiftRo, ckF, cmO, Cm.pay, strOp, -plen, hp, e_co, e_op, e_dat]
  · skip
    have f_dat : (0 : Int) < (x.dat.length : Nat) := by have := List.length_pos_iff.2 e_dat; omega
    have g_dat : 0 < x.dat.length := List.length_pos_iff.2 e_dat
    have hv : bad4 8 x = false := by simp [bad4, e_co, e_op, e_dat, f_dat, g_dat]
    rw [hv]
    simp (maxSteps := 2000000) -implicitDefEqProofs [-getElem?_pos, List.getElem?_cons_zero, List.getElem?_cons_succ, exec, runOps, dstOk, wantedV, AM.step, evalT, evalO, evalArgs, evalParts, getF, putF, afterRegion, assignV, boxOf, newBox, hasIdsP, keepF, ofVal, ofCell, plen, pesz, callV, builtinV, lenV, binV, unV, arith, shiftI, loadV, storeV, putV, indexAddrV, live, upd, pget, pset, psetA, pagg, retag, retagP, byteAV, freezeP, freezeV, joinTags, joinTag, tags, ids, scalar, cellsLen, eqV, convV, faV, fvV, shiftBy, shiftRo, ckF, cmO, Cm.pay, strOp, -plen, hp, e_co, e_op, e_dat, f_dat, g_dat]

end

end Go.Proofs.YtmdciglfpedhgaaDoor
