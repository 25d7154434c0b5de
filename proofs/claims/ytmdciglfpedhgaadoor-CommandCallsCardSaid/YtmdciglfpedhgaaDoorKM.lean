/- What the document's Check tells: the same. A fixed number behind bytes. -/
import Derived.Test.YtmdciglfpedhgaaDoorKL
namespace Go.Proofs.YtmdciglfpedhgaaDoor
open Go.AM
set_option linter.unusedSimpArgs false
set_option linter.unusedVariables false

theorem bad_iff (x : Cm) : (bad2 (shp x.k) x = false ∧ bad4 (shp x.k) x = false) ↔ barR x = x ∧ x.fl ≤ 1 := by
  obtain ⟨k, txt, st, pa, fl, co, op, dat⟩ := x
  have h9 := shp_lt k
  unfold barR bad2 bad4
  simp only
  generalize shp k = j at *
  match j, h9 with
  | 0, _ | 1, _ | 2, _ | 3, _ | 4, _ | 5, _ | 6, _ | 7, _ | 8, _ =>
    by_cases h1 : txt = [] <;> by_cases h2 : dat = [] <;> simp [h1, h2, @eq_comm _ [] txt, @eq_comm _ [] dat] <;> omega

theorem chk_bad (x : Cm) : chkR x = if bad2 (shp x.k) x = true then 2 else if bad4 (shp x.k) x = true then 2 else 0 := by
  have h := bad_iff x
  have h2 := chk_iff x
  have h3 : chkR x = 0 ∨ chkR x = 2 := by unfold chkR; split <;> simp
  cases hb2 : bad2 (shp x.k) x <;> cases hb4 : bad4 (shp x.k) x <;> simp only [hb2, hb4] at h ⊢ <;> simp at h ⊢
  · exact h2.2 h
  all_goals
    rcases h3 with h3 | h3
    · have := h2.1 h3
      exact absurd this.2 (by have := h this.1; omega)
    · exact h3

theorem piece {O : Option Code} {P : Code → Prop} (h : ∃ code, O = some code ∧ P code) (code' : Code) (h' : O = some code') : P code' := by
  obtain ⟨c, h1, h2⟩ := h
  rw [h'] at h1
  exact (Option.some.inj h1) ▸ h2

section
variable (x : Cm) (c t : Nat) (p : AV)

theorem bad2_all {j : Nat} (h9 : j < 9) (hp : plen p = x.dat.length) : ∃ code, ck2O = some code ∧ Run X (evT X) 12 0 code (ckF (j : Nat)) [some (cmO x (.ro c p t))] ⟨.normal, ckF (j : Nat) ++ [(53, .bool (bad2 j x))], [some (cmO x (.ro c p t))]⟩ := by
  match j, h9 with
  | 0, _ => exact bad2_0 x c t p hp
  | 1, _ => exact bad2_1 x c t p hp
  | 2, _ => exact bad2_2 x c t p hp
  | 3, _ => exact bad2_3 x c t p hp
  | 4, _ => exact bad2_4 x c t p hp
  | 5, _ => exact bad2_5 x c t p hp
  | 6, _ => exact bad2_6 x c t p hp
  | 7, _ => exact bad2_7 x c t p hp
  | 8, _ => exact bad2_8 x c t p hp

theorem bad4_all {j : Nat} (h9 : j < 9) (hp : plen p = x.dat.length) : ∃ code, ck4O = some code ∧ Run X (evT X) 12 0 code (ckF (j : Nat) ++ [(53, .bool false)]) [some (cmO x (.ro c p t))] ⟨.normal, [(91, .bool (bad4 j x))], [some (cmO x (.ro c p t))]⟩ := by
  match j, h9 with
  | 0, _ => exact bad4_0 x c t p hp
  | 1, _ => exact bad4_1 x c t p hp
  | 2, _ => exact bad4_2 x c t p hp
  | 3, _ => exact bad4_3 x c t p hp
  | 4, _ => exact bad4_4 x c t p hp
  | 5, _ => exact bad4_5 x c t p hp
  | 6, _ => exact bad4_6 x c t p hp
  | 7, _ => exact bad4_7 x c t p hp
  | 8, _ => exact bad4_8 x c t p hp

set_option maxRecDepth 100000 in
theorem rcheck_code (hk : x.k < 256) (hp : plen p = x.dat.length) : ∃ code, Tryd.f12.body = some code ∧
    Tells (Rets fun fr H => getF fr 2 = .int .i64 (chkR x)) X (evT X) 12 0 code [(0, .agg (x.pay (.ro c p t)))] [] := by
  refine ⟨_, rfl, ?_⟩
  rw [chk_bad]
  have hS := fun H => shapeF_ev hk H
  have h9 := shp_lt x.k
  apply Tells.seq (fr' := [(1, .ptr 0 0 0 0)]) (H' := [some (cmO x (.ro c p t))])
  · (refine ⟨0, ?_⟩; simp (maxSteps := 2000000) -implicitDefEqProofs [-getElem?_pos, List.getElem?_cons_zero, List.getElem?_cons_succ, exec, runOps, dstOk, wantedV, AM.step, evalT, evalO, evalArgs, evalParts, getF, putF, afterRegion, assignV, boxOf, newBox, hasIdsP, keepF, ofVal, ofCell, plen, pesz, callV, builtinV, lenV, binV, unV, arith, shiftI, loadV, storeV, putV, indexAddrV, live, upd, pget, pset, psetA, pagg, retag, retagP, byteAV, freezeP, freezeV, joinTags, joinTag, tags, ids, scalar, cellsLen, eqV, convV, faV, fvV, shiftBy, shiftRo, cmO, Cm.pay])
  apply Tells.seq (fr' := ckF ((shp x.k : Nat) : Int)) (H' := [some (cmO x (.ro c p t))])
  · (refine ⟨0, ?_⟩; simp (maxSteps := 2000000) -implicitDefEqProofs [-getElem?_pos, List.getElem?_cons_zero, List.getElem?_cons_succ, exec, runOps, dstOk, wantedV, AM.step, evalT, evalO, evalArgs, evalParts, getF, putF, afterRegion, assignV, boxOf, newBox, hasIdsP, keepF, ofVal, ofCell, plen, pesz, callV, builtinV, lenV, binV, unV, arith, shiftI, loadV, storeV, putV, indexAddrV, live, upd, pget, pset, psetA, pagg, retag, retagP, byteAV, freezeP, freezeV, joinTags, joinTag, tags, ids, scalar, cellsLen, eqV, convV, faV, fvV, shiftBy, shiftRo, cmO, Cm.pay, hS, ckF])
  apply Tells.assoc
  refine Tells.seq (piece (bad2_all x c t p h9 hp) _ rfl) ?_
  cases h2 : bad2 (shp x.k) x
  · apply Tells.seq (fr' := ckF ((shp x.k : Nat) : Int) ++ [(53, .bool false)]) (H' := [some (cmO x (.ro c p t))])
    · (refine ⟨0, ?_⟩; simp (maxSteps := 2000000) -implicitDefEqProofs [-getElem?_pos, List.getElem?_cons_zero, List.getElem?_cons_succ, exec, runOps, dstOk, wantedV, AM.step, evalT, evalO, evalArgs, evalParts, getF, putF, afterRegion, assignV, boxOf, newBox, hasIdsP, keepF, ofVal, ofCell, plen, pesz, callV, builtinV, lenV, binV, unV, arith, shiftI, loadV, storeV, putV, indexAddrV, live, upd, pget, pset, psetA, pagg, retag, retagP, byteAV, freezeP, freezeV, joinTags, joinTag, tags, ids, scalar, cellsLen, eqV, convV, faV, fvV, shiftBy, shiftRo, ckF])
    apply Tells.assoc
    refine Tells.seq (piece (bad4_all x c t p h9 hp) _ rfl) ?_
    cases h4 : bad4 (shp x.k) x
    · refine Tells.of (o := ⟨.ret, [(2, .int .i64 0)], [some (cmO x (.ro c p t))]⟩) ⟨0, ?_⟩ ⟨rfl, rfl⟩
      simp (maxSteps := 2000000) -implicitDefEqProofs [-getElem?_pos, List.getElem?_cons_zero, List.getElem?_cons_succ, exec, runOps, dstOk, wantedV, AM.step, evalT, evalO, evalArgs, evalParts, getF, putF, afterRegion, assignV, boxOf, newBox, hasIdsP, keepF, ofVal, ofCell, plen, pesz, callV, builtinV, lenV, binV, unV, arith, shiftI, loadV, storeV, putV, indexAddrV, live, upd, pget, pset, psetA, pagg, retag, retagP, byteAV, freezeP, freezeV, joinTags, joinTag, tags, ids, scalar, cellsLen, eqV, convV, faV, fvV, shiftBy, shiftRo]
    · refine Tells.of (o := ⟨.ret, [(2, .int .i64 2)], [some (cmO x (.ro c p t))]⟩) ⟨0, ?_⟩ ⟨rfl, rfl⟩
      simp (maxSteps := 2000000) -implicitDefEqProofs [-getElem?_pos, List.getElem?_cons_zero, List.getElem?_cons_succ, exec, runOps, dstOk, wantedV, AM.step, evalT, evalO, evalArgs, evalParts, getF, putF, afterRegion, assignV, boxOf, newBox, hasIdsP, keepF, ofVal, ofCell, plen, pesz, callV, builtinV, lenV, binV, unV, arith, shiftI, loadV, storeV, putV, indexAddrV, live, upd, pget, pset, psetA, pagg, retag, retagP, byteAV, freezeP, freezeV, joinTags, joinTag, tags, ids, scalar, cellsLen, eqV, convV, faV, fvV, shiftBy, shiftRo]
  · refine Tells.of (o := ⟨.ret, [(2, .int .i64 2)], [some (cmO x (.ro c p t))]⟩) ⟨0, ?_⟩ ⟨rfl, rfl⟩
    simp (maxSteps := 2000000) -implicitDefEqProofs [-getElem?_pos, List.getElem?_cons_zero, List.getElem?_cons_succ, exec, runOps, dstOk, wantedV, AM.step, evalT, evalO, evalArgs, evalParts, getF, putF, afterRegion, assignV, boxOf, newBox, hasIdsP, keepF, ofVal, ofCell, plen, pesz, callV, builtinV, lenV, binV, unV, arith, shiftI, loadV, storeV, putV, indexAddrV, live, upd, pget, pset, psetA, pagg, retag, retagP, byteAV, freezeP, freezeV, joinTags, joinTag, tags, ids, scalar, cellsLen, eqV, convV, faV, fvV, shiftBy, shiftRo, ckF]

end

theorem rcheck_ev {H : AM.Heap} {a : AV} {x : Cm} (hk : x.k < 256) (h : CmA H a x) : evT X 12 [a] H = some (.int .i64 (chkR x), H) := by
  obtain ⟨c, p, ln, hp, hc, hl⟩ := args_cm (f := 12) (i := 0) h (args_nil 1)
  obtain ⟨code, hcode, ⟨o, ⟨he, h2⟩, hrun⟩⟩ := rcheck_code x c 1 p hk hp.plen
  exact evT_eq (Ev1.toldP (l := [.int .i64 (chkR x)]) (evT_below X) Tryd.func12 hcode hl (by simp [Cm.pay, idsL, ids, hp.ids]) (by simp [gtag]) rfl rfl rfl
    ⟨o, ⟨he, by show some [getF o.fr 2] = _; rw [h2]⟩, hrun⟩)

end Go.Proofs.YtmdciglfpedhgaaDoor
