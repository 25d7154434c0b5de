/- Walks: bare, Check. -/
import Derived.Test.YtmdciglfpedhgaaDoorK5
namespace Go.Proofs.YtmdciglfpedhgaaDoor
open Go.AM
set_option linter.unusedSimpArgs false
set_option linter.unusedVariables false

def barD (x : Cm) (v : AV) : AV := if shp x.k = 3 ∨ shp x.k = 4 ∨ shp x.k = 8 then v else .ro 0 .pn 0

theorem bar_all (x : Cm) (c t : Nat) (p : AV) (z : Option AM.Obj) : ∃ code, barO = some code ∧
    Tells (Goes (barP (some (cmO x (.ro c p t))) z (some (cmO (barR x) (barD x (.ro c p t)))))) X (evT X) 26 0 code (barFr ((shp x.k : Nat) : Int)) [some (cmO x (.ro c p t)), z, some (cmO { k := x.k } (.ro 0 .pn 0))] := by
  have h9 := shp_lt x.k
  unfold barR barD
  generalize shp x.k = j at *
  match j, h9 with
  | 0, _ => exact bar0 x c t p z
  | 1, _ => exact bar1 x c t p z
  | 2, _ => exact bar2 x c t p z
  | 3, _ => exact bar3 x c t p z
  | 4, _ => exact bar4 x c t p z
  | 5, _ => exact bar5 x c t p z
  | 6, _ => exact bar6 x c t p z
  | 7, _ => exact bar7 x c t p z
  | 8, _ => exact bar8 x c t p z

set_option maxRecDepth 100000 in
theorem bare_code (x : Cm) (hk : x.k < 256) (c t : Nat) (p : AV) : ∃ code, Tryd.f26.body = some code ∧
    Tells (Rets fun fr H => getF fr 2 = .ptr 1 0 0 0 ∧ H[1]? = some (some (cmO (barR x) (barD x (.ro c p t))))) X (evT X) 26 0 code [(0, .agg (x.pay (.ro c p t)))] [] := by
  refine ⟨_, rfl, ?_⟩
  have hS := fun H => shape_ev hk H
  apply Tells.seq (fr' := [(1, .ptr 0 0 0 0), (2, .ptr 1 0 0 0)]) (H' := [some (cmO x (.ro c p t)), some (cmO { k := 0 } (.ro 0 .pn 0))])
  · (refine ⟨0, ?_⟩; simp (maxSteps := 2000000) -implicitDefEqProofs [-getElem?_pos, List.getElem?_cons_zero, List.getElem?_cons_succ, exec, runOps, dstOk, wantedV, AM.step, evalT, evalO, evalArgs, evalParts, getF, putF, afterRegion, assignV, boxOf, newBox, hasIdsP, keepF, ofVal, ofCell, plen, pesz, callV, builtinV, lenV, binV, unV, arith, shiftI, loadV, storeV, putV, indexAddrV, live, upd, pget, pset, psetA, pagg, retag, retagP, byteAV, freezeP, freezeV, joinTags, joinTag, tags, ids, scalar, cellsLen, eqV, convV, faV, fvV, shiftBy, shiftRo, cmO, Cm.pay])
  apply Tells.seq (fr' := [(1, .ptr 0 0 0 0), (2, .ptr 1 0 0 0), (3, .ptr 2 0 0 0)]) (H' := [some (cmO x (.ro c p t)), some (cmO { k := 0 } (.ro 0 .pn 0)), some (cmO { k := x.k } (.ro 0 .pn 0))])
  · (refine ⟨0, ?_⟩; simp (maxSteps := 2000000) -implicitDefEqProofs [-getElem?_pos, List.getElem?_cons_zero, List.getElem?_cons_succ, exec, runOps, dstOk, wantedV, AM.step, evalT, evalO, evalArgs, evalParts, getF, putF, afterRegion, assignV, boxOf, newBox, hasIdsP, keepF, ofVal, ofCell, plen, pesz, callV, builtinV, lenV, binV, unV, arith, shiftI, loadV, storeV, putV, indexAddrV, live, upd, pget, pset, psetA, pagg, retag, retagP, byteAV, freezeP, freezeV, joinTags, joinTag, tags, ids, scalar, cellsLen, eqV, convV, faV, fvV, shiftBy, shiftRo, cmO, Cm.pay, bd26, flatCells, splice, scalars, scalar])
  apply Tells.assoc
  apply Tells.seq (fr' := barFr ((shp x.k : Nat) : Int)) (H' := [some (cmO x (.ro c p t)), some (cmO { k := 0 } (.ro 0 .pn 0)), some (cmO { k := x.k } (.ro 0 .pn 0))])
  · (refine ⟨0, ?_⟩; simp (maxSteps := 2000000) -implicitDefEqProofs [-getElem?_pos, List.getElem?_cons_zero, List.getElem?_cons_succ, exec, runOps, dstOk, wantedV, AM.step, evalT, evalO, evalArgs, evalParts, getF, putF, afterRegion, assignV, boxOf, newBox, hasIdsP, keepF, ofVal, ofCell, plen, pesz, callV, builtinV, lenV, binV, unV, arith, shiftI, loadV, storeV, putV, indexAddrV, live, upd, pget, pset, psetA, pagg, retag, retagP, byteAV, freezeP, freezeV, joinTags, joinTag, tags, ids, scalar, cellsLen, eqV, convV, faV, fvV, shiftBy, shiftRo, cmO, Cm.pay, hS, barFr])
  clear hS
  apply Tells.andThen (P := barP (some (cmO x (.ro c p t))) (some (cmO { k := 0 } (.ro 0 .pn 0))) (some (cmO (barR x) (barD x (.ro c p t)))))
  · obtain ⟨code, hcode, hblk⟩ := bar_all x c t p (some (cmO { k := 0 } (.ro 0 .pn 0)))
    have gen : ∀ code', barO = some code' → Tells (Goes (barP (some (cmO x (.ro c p t))) (some (cmO { k := 0 } (.ro 0 .pn 0))) (some (cmO (barR x) (barD x (.ro c p t)))))) X (evT X) 26 0 code' (barFr ((shp x.k : Nat) : Int)) [some (cmO x (.ro c p t)), some (cmO { k := 0 } (.ro 0 .pn 0)), some (cmO { k := x.k } (.ro 0 .pn 0))] := fun code' h => by
      rw [hcode] at h
      exact (Option.some.inj h) ▸ hblk
    exact gen _ rfl
  rintro fr H ⟨h2, h3, rfl⟩
  have hd : barD x (.ro c p t) = .ro c p t ∨ barD x (.ro c p t) = .ro 0 .pn 0 := by
    unfold barD
    split
    · exact .inl rfl
    · exact .inr rfl
  generalize barR x = y
  refine Tells.of (o := ⟨.ret, [(2, .ptr 1 0 0 0)], [some (cmO x (.ro c p t)), some (cmO y (barD x (.ro c p t))), some (cmO y (barD x (.ro c p t)))]⟩) ⟨0, ?_⟩ ⟨rfl, rfl, rfl⟩
  rcases hd with hd | hd
  · rw [hd]
    simp (maxSteps := 2000000) -implicitDefEqProofs [-getElem?_pos, List.getElem?_cons_zero, List.getElem?_cons_succ, exec, runOps, dstOk, wantedV, AM.step, evalT, evalO, evalArgs, evalParts, getF, putF, afterRegion, assignV, boxOf, newBox, hasIdsP, keepF, ofVal, ofCell, plen, pesz, callV, builtinV, lenV, binV, unV, arith, shiftI, loadV, storeV, putV, indexAddrV, live, upd, pget, pset, psetA, pagg, retag, retagP, byteAV, freezeP, freezeV, joinTags, joinTag, tags, ids, scalar, cellsLen, eqV, convV, faV, fvV, shiftBy, shiftRo, cmO, Cm.pay, h2, h3, flatCells, splice, scalars, scalar, mk26]
  · rw [hd]
    simp (maxSteps := 2000000) -implicitDefEqProofs [-getElem?_pos, List.getElem?_cons_zero, List.getElem?_cons_succ, exec, runOps, dstOk, wantedV, AM.step, evalT, evalO, evalArgs, evalParts, getF, putF, afterRegion, assignV, boxOf, newBox, hasIdsP, keepF, ofVal, ofCell, plen, pesz, callV, builtinV, lenV, binV, unV, arith, shiftI, loadV, storeV, putV, indexAddrV, live, upd, pget, pset, psetA, pagg, retag, retagP, byteAV, freezeP, freezeV, joinTags, joinTag, tags, ids, scalar, cellsLen, eqV, convV, faV, fvV, shiftBy, shiftRo, cmO, Cm.pay, h2, h3, flatCells, splice, scalars, scalar, mk26]

end Go.Proofs.YtmdciglfpedhgaaDoor
