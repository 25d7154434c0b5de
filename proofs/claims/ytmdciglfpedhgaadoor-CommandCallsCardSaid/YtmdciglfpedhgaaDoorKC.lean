/- Walks: WithStmt, SameCommand, small, lives. -/
import Derived.Test.YtmdciglfpedhgaaDoorKB
namespace Go.Proofs.YtmdciglfpedhgaaDoor
open Go.AM
set_option linter.unusedSimpArgs false
set_option linter.unusedVariables false

theorem lives_ev (H : AM.Heap) : evT X 5 [] H = some (.bool true, H) :=
  evT_eq (Ev1.triedP (T := fun _ _ _ => none) Below.none (n := 400) (f := 5) (args := []) (v := .bool true) (by kernel_rfl) rfl H)

section
variable (x y : Cm) (c c2 : Nat) (p p2 : AV)

set_option maxRecDepth 100000 in
theorem small_code (hp : plen p = x.dat.length) : ∃ code, Tryd.f6.body = some code ∧
    Tells (Rets fun fr H => getF fr 2 = .bool (decide (x.txt.length ≤ 3000 ∧ x.dat.length ≤ 3000))) X (evT X) 6 0 code [(0, .agg (x.pay (.ro c p 1)))] [] := by
  refine ⟨_, rfl, ?_⟩
  by_cases h1 : x.txt.length ≤ 3000
  · have h1i : (x.txt.length : Int) ≤ 3000 := by omega
    by_cases h2 : x.dat.length ≤ 3000
    · have h2i : (x.dat.length : Int) ≤ 3000 := by omega
      refine Tells.of (o := ⟨.ret, [(2, .bool true)], [some (cmO x (.ro c p 1))]⟩) ⟨0, ?_⟩ ⟨rfl, by simp [getF, h1, h2]⟩
      simp (maxSteps := 2000000) -implicitDefEqProofs [-getElem?_pos, List.getElem?_cons_zero, List.getElem?_cons_succ, exec, runOps, dstOk, wantedV, AM.step, evalT, evalO, evalArgs, evalParts, getF, putF, afterRegion, assignV, boxOf, newBox, hasIdsP, keepF, ofVal, ofCell, plen, pesz, callV, builtinV, lenV, binV, unV, arith, shiftI, loadV, storeV, putV, indexAddrV, live, upd, pget, pset, psetA, pagg, retag, retagP, byteAV, freezeP, freezeV, joinTags, joinTag, tags, ids, scalar, cellsLen, eqV, convV, faV, fvV, shiftBy, shiftRo, cmO, Cm.pay, -plen, hp, h1i, h2i]
    · have h2i : ¬ (x.dat.length : Int) ≤ 3000 := by omega
      refine Tells.of (o := ⟨.ret, [(2, .bool false)], [some (cmO x (.ro c p 1))]⟩) ⟨0, ?_⟩ ⟨rfl, by simp [getF, h1, h2]⟩
      simp (maxSteps := 2000000) -implicitDefEqProofs [-getElem?_pos, List.getElem?_cons_zero, List.getElem?_cons_succ, exec, runOps, dstOk, wantedV, AM.step, evalT, evalO, evalArgs, evalParts, getF, putF, afterRegion, assignV, boxOf, newBox, hasIdsP, keepF, ofVal, ofCell, plen, pesz, callV, builtinV, lenV, binV, unV, arith, shiftI, loadV, storeV, putV, indexAddrV, live, upd, pget, pset, psetA, pagg, retag, retagP, byteAV, freezeP, freezeV, joinTags, joinTag, tags, ids, scalar, cellsLen, eqV, convV, faV, fvV, shiftBy, shiftRo, cmO, Cm.pay, -plen, hp, h1i, h2i]
  · have h1i : ¬ (x.txt.length : Int) ≤ 3000 := by omega
    refine Tells.of (o := ⟨.ret, [(2, .bool false)], [some (cmO x (.ro c p 1))]⟩) ⟨0, ?_⟩ ⟨rfl, by simp [getF, h1]⟩
    simp (maxSteps := 2000000) -implicitDefEqProofs [-getElem?_pos, List.getElem?_cons_zero, List.getElem?_cons_succ, exec, runOps, dstOk, wantedV, AM.step, evalT, evalO, evalArgs, evalParts, getF, putF, afterRegion, assignV, boxOf, newBox, hasIdsP, keepF, ofVal, ofCell, plen, pesz, callV, builtinV, lenV, binV, unV, arith, shiftI, loadV, storeV, putV, indexAddrV, live, upd, pget, pset, psetA, pagg, retag, retagP, byteAV, freezeP, freezeV, joinTags, joinTag, tags, ids, scalar, cellsLen, eqV, convV, faV, fvV, shiftBy, shiftRo, cmO, Cm.pay, -plen, hp, h1i]

/-- SameCommand's comparison -/
def sameC (x y : Cm) : Bool := x.k == y.k && (x.txt == y.txt && (x.st == y.st && (x.pa == y.pa && (x.fl == y.fl && (x.co == y.co && (x.op == y.op && x.dat == y.dat))))))

end

theorem sameC_iff (x y : Cm) : sameC x y = true ↔ x = y := by
  obtain ⟨a0, a1, a2, a3, a4, a5, a6, a7⟩ := x
  obtain ⟨b0, b1, b2, b3, b4, b5, b6, b7⟩ := y
  simp [sameC]

theorem small_ev {H : AM.Heap} {a : AV} {x : Cm} (h : CmA H a x) : evT X 6 [a] H = some (.bool (decide (x.txt.length ≤ 3000 ∧ x.dat.length ≤ 3000)), H) := by
  obtain ⟨c, p, ln, hp, hc, hl⟩ := args_cm (f := 6) (i := 0) h (args_nil 1)
  obtain ⟨code, hcode, ⟨o, ⟨he, h2⟩, hrun⟩⟩ := small_code x c p hp.plen
  exact evT_eq (Ev1.toldP (l := [.bool (decide (x.txt.length ≤ 3000 ∧ x.dat.length ≤ 3000))]) (evT_below X) Tryd.func6 hcode hl (by simp [Cm.pay, idsL, ids, hp.ids]) (by simp [gtag]) rfl rfl rfl
    ⟨o, ⟨he, by show some [getF o.fr 2] = _; rw [h2]⟩, hrun⟩)

end Go.Proofs.YtmdciglfpedhgaaDoor
