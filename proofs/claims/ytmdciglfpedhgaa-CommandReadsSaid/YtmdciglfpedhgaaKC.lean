/- Walks: WithStmt, SameCommand, small, lives. -/
import Derived.Test.YtmdciglfpedhgaaKB
namespace Go.Proofs.Ytmdciglfpedhgaa
open Go.AM
set_option linter.unusedSimpArgs false
set_option linter.unusedVariables false

theorem lives_ev (H : AM.Heap) : evT X 6 [] H = some (.bool true, H) :=
  evT_eq (Ev1.triedP (T := fun _ _ _ => none) Below.none (n := 400) (f := 6) (args := []) (v := .bool true) (by kernel_rfl) rfl H)

section
variable (x y : Cm) (c c2 : Nat) (p p2 : AV)

set_option maxRecDepth 100000 in
theorem small_code (hp : plen p = x.dat.length) : ∃ code, Try.f7.body = some code ∧
    Tells (Rets fun fr H => getF fr 2 = .bool (decide (x.txt.length ≤ 3000 ∧ x.dat.length ≤ 3000))) X (evT X) 7 0 code [(0, .agg (x.pay (.ro c p 1)))] [] := by
  refine ⟨_, rfl, ?_⟩
  by_cases h1 : x.txt.length ≤ 3000
  · have h1i : (x.txt.length : Int) ≤ 3000 := by omega
    by_cases h2 : x.dat.length ≤ 3000
    · have h2i : (x.dat.length : Int) ≤ 3000 := by omega
      refine Tells.of (o := ⟨.ret, [(2, .bool true)], [some (cmO x (.ro c p 1))]⟩) ⟨0, ?_⟩ ⟨rfl, by simp [getF, h1, h2]⟩
      simp (maxSteps := 2000000) -implicitDefEqProofs [-getElem?_pos, List.getElem?_cons_zero, List.getElem?_cons_succ, exec, runOps, dstOk, wantedV, AM.step, evalT, evalO, evalArgs, evalParts, getF, putF, afterRegion, assignV, boxOf, newBox, hasIdsP, keepF, ofVal, ofCell, plen, pesz, callV, builtinV, lenV, binV, unV, arith, shiftI, loadV, storeV, putV, indexAddrV, live, upd, pget, pset, psetA, pagg, retag, retagP, byteAV, freezeP, freezeV, joinTags, joinTag, tags, ids, scalar, cellsLen, eqV, convV, faV, fvV, shiftBy, shiftRo, cmO, Cm.pay, -plen, hp, h1i, h2i]
    · have h2i : ¬ (x.dat.length : Int) ≤ 3000 := by omega
      refine Tells.of (o := ⟨.ret, [(2, .bool false)], [some (cmO x (.ro c p 1))]⟩) ⟨0, ?_⟩ ⟨rfl, by simp [getF, h1, h2]⟩
      simp (maxSteps := 2000000) -implicitDefEqProofs [-getElem?_pos, List.getElem?_cons_zero, List.getElem?_cons_succ, exec, runOps, dstOk, wantedV, AM.step, evalT, evalO, evalArgs, evalParts, getF, putF, afterRegion, assignV, boxOf, newBox, hasIdsP, keepF, ofVal, ofCell, plen, pesz, callV, builtinV, lenV, binV, unV, arith, shiftI, loadV, storeV, putV, indexAddrV, live, upd, pget, pset, psetA, pagg, retag, retagP, byteAV, freezeP, freezeV, joinTags, joinTag, tags, ids, scalar, cellsLen, eqV, convV, faV, fvV, shiftBy, shiftRo, cmO, Cm.pay, -plen, hp, h1i, h2i]
  · have h1i : ¬ (x.txt.length : Int) ≤ 3000 := by omega
    refine Tells.of (o := ⟨.ret, [(2, .bool false)], [some (cmO x (.ro c p 1))]⟩) ⟨0, ?_⟩ ⟨rfl, by simp [getF, h1]⟩
    simp (maxSteps := 2000000) -implicitDefEqProofs [-getElem?_pos, List.getElem?_cons_zero, List.getElem?_cons_succ, exec, runOps, dstOk, wantedV, AM.step, evalT, evalO, evalArgs, evalParts, getF, putF, afterRegion, assignV, boxOf, newBox, hasIdsP, keepF, ofVal, ofCell, plen, pesz, callV, builtinV, lenV, binV, unV, arith, shiftI, loadV, storeV, putV, indexAddrV, live, upd, pget, pset, psetA, pagg, retag, retagP, byteAV, freezeP, freezeV, joinTags, joinTag, tags, ids, scalar, cellsLen, eqV, convV, faV, fvV, shiftBy, shiftRo, cmO, Cm.pay, -plen, hp, h1i]

/-- SameCommand's comparison -/
def sameC (x y : Cm) : Bool := x.k == y.k && (x.txt == y.txt && (x.st == y.st && (x.pa == y.pa && (x.fl == y.fl && (x.co == y.co && (x.op == y.op && x.dat == y.dat))))))

set_option maxRecDepth 100000 in
theorem sameC_code (hp : PB p x.dat) (hp2 : PB p2 y.dat) (hc : c = 0 → x.dat = []) (hc2 : c2 = 0 → y.dat = []) : ∃ code, Try.f11.body = some code ∧
    Run X (evT X) 11 0 code [(0, .agg (x.pay (.ro c p 1))), (1, .agg (y.pay (.ro c2 p2 2)))] [] ⟨.ret, [(4, .bool (sameC x y))], [some (cmO x (.ro c p 1)), some (cmO y (.ro c2 p2 2))]⟩ := by
  refine ⟨_, rfl, 0, ?_⟩
  have hS := sameB_ev (H := [some (cmO x (.ro c p 1)), some (cmO y (.ro c2 p2 2))]) (a := .ro c p 1) (a2 := .ro c2 p2 2) (Byt.ro hp hc) (Byt.ro hp2 hc2)
  unfold sameC
  simp only [cmO, Cm.pay] at hS
  by_cases e0 : x.k = y.k
  case neg =>
    have f0 : (x.k == y.k) = false := by simpa using e0
    simp (maxSteps := 2000000) -implicitDefEqProofs [-getElem?_pos, List.getElem?_cons_zero, List.getElem?_cons_succ, exec, runOps, dstOk, wantedV, AM.step, evalT, evalO, evalArgs, evalParts, getF, putF, afterRegion, assignV, boxOf, newBox, hasIdsP, keepF, ofVal, ofCell, plen, pesz, callV, builtinV, lenV, binV, unV, arith, shiftI, loadV, storeV, putV, indexAddrV, live, upd, pget, pset, psetA, pagg, retag, retagP, byteAV, freezeP, freezeV, joinTags, joinTag, tags, ids, scalar, cellsLen, eqV, convV, faV, fvV, shiftBy, shiftRo, strOp, cmO, Cm.pay, beqI, f0]
  by_cases e1 : x.txt = y.txt
  case neg =>
    have f1 : (x.txt == y.txt) = false := by simpa using e1
    simp (maxSteps := 2000000) -implicitDefEqProofs [-getElem?_pos, List.getElem?_cons_zero, List.getElem?_cons_succ, exec, runOps, dstOk, wantedV, AM.step, evalT, evalO, evalArgs, evalParts, getF, putF, afterRegion, assignV, boxOf, newBox, hasIdsP, keepF, ofVal, ofCell, plen, pesz, callV, builtinV, lenV, binV, unV, arith, shiftI, loadV, storeV, putV, indexAddrV, live, upd, pget, pset, psetA, pagg, retag, retagP, byteAV, freezeP, freezeV, joinTags, joinTag, tags, ids, scalar, cellsLen, eqV, convV, faV, fvV, shiftBy, shiftRo, strOp, cmO, Cm.pay, beqI, e0, f1]
  by_cases e2 : x.st = y.st
  case neg =>
    have f2 : (x.st == y.st) = false := by simpa using e2
    simp (maxSteps := 2000000) -implicitDefEqProofs [-getElem?_pos, List.getElem?_cons_zero, List.getElem?_cons_succ, exec, runOps, dstOk, wantedV, AM.step, evalT, evalO, evalArgs, evalParts, getF, putF, afterRegion, assignV, boxOf, newBox, hasIdsP, keepF, ofVal, ofCell, plen, pesz, callV, builtinV, lenV, binV, unV, arith, shiftI, loadV, storeV, putV, indexAddrV, live, upd, pget, pset, psetA, pagg, retag, retagP, byteAV, freezeP, freezeV, joinTags, joinTag, tags, ids, scalar, cellsLen, eqV, convV, faV, fvV, shiftBy, shiftRo, strOp, cmO, Cm.pay, beqI, e0, e1, f2]
  by_cases e3 : x.pa = y.pa
  case neg =>
    have f3 : (x.pa == y.pa) = false := by simpa using e3
    simp (maxSteps := 2000000) -implicitDefEqProofs [-getElem?_pos, List.getElem?_cons_zero, List.getElem?_cons_succ, exec, runOps, dstOk, wantedV, AM.step, evalT, evalO, evalArgs, evalParts, getF, putF, afterRegion, assignV, boxOf, newBox, hasIdsP, keepF, ofVal, ofCell, plen, pesz, callV, builtinV, lenV, binV, unV, arith, shiftI, loadV, storeV, putV, indexAddrV, live, upd, pget, pset, psetA, pagg, retag, retagP, byteAV, freezeP, freezeV, joinTags, joinTag, tags, ids, scalar, cellsLen, eqV, convV, faV, fvV, shiftBy, shiftRo, strOp, cmO, Cm.pay, beqI, e0, e1, e2, f3]
  by_cases e4 : x.fl = y.fl
  case neg =>
    have f4 : (x.fl == y.fl) = false := by simpa using e4
    simp (maxSteps := 2000000) -implicitDefEqProofs [-getElem?_pos, List.getElem?_cons_zero, List.getElem?_cons_succ, exec, runOps, dstOk, wantedV, AM.step, evalT, evalO, evalArgs, evalParts, getF, putF, afterRegion, assignV, boxOf, newBox, hasIdsP, keepF, ofVal, ofCell, plen, pesz, callV, builtinV, lenV, binV, unV, arith, shiftI, loadV, storeV, putV, indexAddrV, live, upd, pget, pset, psetA, pagg, retag, retagP, byteAV, freezeP, freezeV, joinTags, joinTag, tags, ids, scalar, cellsLen, eqV, convV, faV, fvV, shiftBy, shiftRo, strOp, cmO, Cm.pay, beqI, e0, e1, e2, e3, f4]
  by_cases e5 : x.co = y.co
  case neg =>
    have f5 : (x.co == y.co) = false := by simpa using e5
    simp (maxSteps := 2000000) -implicitDefEqProofs [-getElem?_pos, List.getElem?_cons_zero, List.getElem?_cons_succ, exec, runOps, dstOk, wantedV, AM.step, evalT, evalO, evalArgs, evalParts, getF, putF, afterRegion, assignV, boxOf, newBox, hasIdsP, keepF, ofVal, ofCell, plen, pesz, callV, builtinV, lenV, binV, unV, arith, shiftI, loadV, storeV, putV, indexAddrV, live, upd, pget, pset, psetA, pagg, retag, retagP, byteAV, freezeP, freezeV, joinTags, joinTag, tags, ids, scalar, cellsLen, eqV, convV, faV, fvV, shiftBy, shiftRo, strOp, cmO, Cm.pay, beqI, e0, e1, e2, e3, e4, f5]
  by_cases e6 : x.op = y.op
  case neg =>
    have f6 : (x.op == y.op) = false := by simpa using e6
    simp (maxSteps := 2000000) -implicitDefEqProofs [-getElem?_pos, List.getElem?_cons_zero, List.getElem?_cons_succ, exec, runOps, dstOk, wantedV, AM.step, evalT, evalO, evalArgs, evalParts, getF, putF, afterRegion, assignV, boxOf, newBox, hasIdsP, keepF, ofVal, ofCell, plen, pesz, callV, builtinV, lenV, binV, unV, arith, shiftI, loadV, storeV, putV, indexAddrV, live, upd, pget, pset, psetA, pagg, retag, retagP, byteAV, freezeP, freezeV, joinTags, joinTag, tags, ids, scalar, cellsLen, eqV, convV, faV, fvV, shiftBy, shiftRo, strOp, cmO, Cm.pay, beqI, e0, e1, e2, e3, e4, e5, f6]
  have b0 : (x.k == y.k) = true := by simpa using e0
  have b1 : (x.txt == y.txt) = true := by simpa using e1
  have b2 : (x.st == y.st) = true := by simpa using e2
  have b3 : (x.pa == y.pa) = true := by simpa using e3
  have b4 : (x.fl == y.fl) = true := by simpa using e4
  have b5 : (x.co == y.co) = true := by simpa using e5
  have b6 : (x.op == y.op) = true := by simpa using e6
  simp (maxSteps := 2000000) -implicitDefEqProofs [-getElem?_pos, List.getElem?_cons_zero, List.getElem?_cons_succ, exec, runOps, dstOk, wantedV, AM.step, evalT, evalO, evalArgs, evalParts, getF, putF, afterRegion, assignV, boxOf, newBox, hasIdsP, keepF, ofVal, ofCell, plen, pesz, callV, builtinV, lenV, binV, unV, arith, shiftI, loadV, storeV, putV, indexAddrV, live, upd, pget, pset, psetA, pagg, retag, retagP, byteAV, freezeP, freezeV, joinTags, joinTag, tags, ids, scalar, cellsLen, eqV, convV, faV, fvV, shiftBy, shiftRo, strOp, cmO, Cm.pay, beqI, b0, b1, b2, b3, b4, b5, b6, hS]

end

theorem sameC_iff (x y : Cm) : sameC x y = true ↔ x = y := by
  obtain ⟨a0, a1, a2, a3, a4, a5, a6, a7⟩ := x
  obtain ⟨b0, b1, b2, b3, b4, b5, b6, b7⟩ := y
  simp [sameC]

theorem small_ev {H : AM.Heap} {a : AV} {x : Cm} (h : CmA H a x) : evT X 7 [a] H = some (.bool (decide (x.txt.length ≤ 3000 ∧ x.dat.length ≤ 3000)), H) := by
  obtain ⟨c, p, ln, hp, hc, hl⟩ := args_cm (f := 7) (i := 0) h (args_nil 1)
  obtain ⟨code, hcode, ⟨o, ⟨he, h2⟩, hrun⟩⟩ := small_code x c p hp.plen
  exact evT_eq (Ev1.toldP (l := [.bool (decide (x.txt.length ≤ 3000 ∧ x.dat.length ≤ 3000))]) (evT_below X) Try.func7 hcode hl (by simp [Cm.pay, idsL, ids, hp.ids]) (by simp [gtag]) rfl rfl rfl
    ⟨o, ⟨he, by show some [getF o.fr 2] = _; rw [h2]⟩, hrun⟩)

theorem sameC_ev {H : AM.Heap} {a a2 : AV} {x y : Cm} (h : CmA H a x) (h2 : CmA H a2 y) : evT X 11 [a, a2] H = some (.bool (sameC x y), H) := by
  obtain ⟨c2, p2, ln2, hp2, hc2, hl2⟩ := args_cm (f := 11) (i := 1) h2 (args_nil 2)
  obtain ⟨c, p, ln, hp, hc, hl⟩ := args_cm (f := 11) (i := 0) h hl2
  obtain ⟨code, hcode, hrun⟩ := sameC_code x y c c2 p p2 hp hp2 hc hc2
  exact evT_eq (Ev1.toldP (l := [.bool (sameC x y)]) (evT_below X) Try.func11 hcode hl (by simp [Cm.pay, idsL, ids, hp.ids, hp2.ids]) (by simp [gtag]) rfl rfl rfl
    ⟨_, ⟨rfl, rfl⟩, hrun⟩)

end Go.Proofs.Ytmdciglfpedhgaa
