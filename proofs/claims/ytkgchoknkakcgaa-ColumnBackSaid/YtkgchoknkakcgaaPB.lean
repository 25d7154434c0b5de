/- Walks: the law ColumnReads. -/
import Derived.Test.YtkgchoknkakcgaaPA
import Derived.Test.YtkgchoknkakcgaaF3
namespace Go.Proofs.Ytkgchoknkakcgaa
open Go.AM
set_option linter.unusedSimpArgs false
set_option linter.unusedVariables false

theorem livesR_ev (H : AM.Heap) : evT X 5 [] H = some (.bool true, H) :=
  evT_eq (Ev1.triedP (T := fun _ _ _ => none) Below.none (n := 400) (f := 5) (args := []) (v := .bool true) (by kernel_rfl) rfl H)

theorem coEqR (s t ot n on : List UInt8) (cs ln ty fl dc : Int) :
    eqFlat X 6 28 [.str s, .str t, .str ot, .str n, .str on, .int .u16 cs, .int .u32 ln, .int .u8 ty, .int .u16 fl, .int .u8 dc] [.str s, .str t, .str ot, .str n, .str on, .int .u16 cs, .int .u32 ln, .int .u8 ty, .int .u16 fl, .int .u8 dc] =
      some (s == s && (t == t && (ot == ot && (n == n && (on == on && ((cs == cs) && ((ln == ln) && ((ty == ty) && ((fl == fl) && ((dc == dc) && true)))))))))) := by kernel_rfl
theorem stCoR : isStructT X 28 = true := by kernel_rfl
theorem guCoR : X.P.eqGuardType X.P.depth 28 = false := by kernel_rfl
theorem eqCoR (x : Co) (H : AM.Heap) (xo yo : Operand) : eqV X H 28 (.agg x.pay) (.agg x.pay) xo yo = some true := by
  show (if isStructT X 28 && !X.P.eqGuardType X.P.depth 28 then eqFlat X 6 28 _ _ else none) = _
  rw [stCoR, guCoR]
  have := coEqR x.s x.t x.ot x.n x.on x.cs x.ln x.ty x.fl x.dc
  simp only [beq_self_eq_true, Bool.and_true] at this
  exact this

section
variable (c : Nat) (b : List UInt8)

set_option maxRecDepth 100000 in
theorem reads_code (hc : c = 0 → b = []) : ∃ code, Try.f3.body = some code ∧
    Tells (Rets fun fr H => getF fr 2 = .bool true) X (evT X) 3 0 code [(0, .ro c (.pb b) 1)] [] := by
  refine ⟨_, rfl, ?_⟩
  have hL := fun H => livesR_ev H
  have hro : ∀ H, Byt H (.ro c (.pb b) 1) b := fun H => Byt.ro (.inl rfl) hc
  apply Tells.seq
  · (refine ⟨0, ?_⟩; conv => lhs; simp (maxSteps := 2000000) -implicitDefEqProofs [-getElem?_pos, List.getElem?_cons_zero, List.getElem?_cons_succ, exec, runOps, dstOk, wantedV, AM.step, evalT, evalO, evalArgs, evalParts, getF, putF, afterRegion, assignV, boxOf, newBox, hasIdsP, keepF, ofVal, ofCell, plen, pesz, callV, builtinV, lenV, binV, unV, arith, shiftI, loadV, storeV, putV, indexAddrV, live, upd, pget, pset, psetA, pagg, retag, retagP, byteAV, freezeP, freezeV, joinTags, joinTag, tags, ids, scalar, cellsLen, eqV, convV, faV, fvV, shiftBy, shiftRo])
  apply Tells.seq
  · (refine ⟨0, ?_⟩; conv => lhs; simp (maxSteps := 2000000) -implicitDefEqProofs [-getElem?_pos, List.getElem?_cons_zero, List.getElem?_cons_succ, exec, runOps, dstOk, wantedV, AM.step, evalT, evalO, evalArgs, evalParts, getF, putF, afterRegion, assignV, boxOf, newBox, hasIdsP, keepF, ofVal, ofCell, plen, pesz, callV, builtinV, lenV, binV, unV, arith, shiftI, loadV, storeV, putV, indexAddrV, live, upd, pget, pset, psetA, pagg, retag, retagP, byteAV, freezeP, freezeV, joinTags, joinTag, tags, ids, scalar, cellsLen, eqV, convV, faV, fvV, shiftBy, shiftRo, hL, unV])
  by_cases hb : (3000 : Int) < (b.length : Int)
  · refine Tells.of (o := ⟨.ret, [(2, .bool true)], []⟩) ⟨0, ?_⟩ ⟨rfl, rfl⟩
    simp (maxSteps := 2000000) -implicitDefEqProofs [-getElem?_pos, List.getElem?_cons_zero, List.getElem?_cons_succ, exec, runOps, dstOk, wantedV, AM.step, evalT, evalO, evalArgs, evalParts, getF, putF, afterRegion, assignV, boxOf, newBox, hasIdsP, keepF, ofVal, ofCell, plen, pesz, callV, builtinV, lenV, binV, unV, arith, shiftI, loadV, storeV, putV, indexAddrV, live, upd, pget, pset, psetA, pagg, retag, retagP, byteAV, freezeP, freezeV, joinTags, joinTag, tags, ids, scalar, cellsLen, eqV, convV, faV, fvV, shiftBy, shiftRo, hb]
  have hbl : b.length ≤ 3000 := by omega
  apply Tells.seq
  · (refine ⟨0, ?_⟩; conv => lhs; simp (maxSteps := 2000000) -implicitDefEqProofs [-getElem?_pos, List.getElem?_cons_zero, List.getElem?_cons_succ, exec, runOps, dstOk, wantedV, AM.step, evalT, evalO, evalArgs, evalParts, getF, putF, afterRegion, assignV, boxOf, newBox, hasIdsP, keepF, ofVal, ofCell, plen, pesz, callV, builtinV, lenV, binV, unV, arith, shiftI, loadV, storeV, putV, indexAddrV, live, upd, pget, pset, psetA, pagg, retag, retagP, byteAV, freezeP, freezeV, joinTags, joinTag, tags, ids, scalar, cellsLen, eqV, convV, faV, fvV, shiftBy, shiftRo, hb])
  obtain ⟨obo, hO, hOw⟩ := own_ev (H := []) (hro _) (by omega)
  apply Tells.seq (fr' := [(0, .ro c (.pb b) 1), (3, .sl 0 0 b.length 0)]) (H' := [some obo])
  · (refine ⟨0, ?_⟩; simp (maxSteps := 2000000) -implicitDefEqProofs [-getElem?_pos, List.getElem?_cons_zero, List.getElem?_cons_succ, exec, runOps, dstOk, wantedV, AM.step, evalT, evalO, evalArgs, evalParts, getF, putF, afterRegion, assignV, boxOf, newBox, hasIdsP, keepF, ofVal, ofCell, plen, pesz, callV, builtinV, lenV, binV, unV, arith, shiftI, loadV, storeV, putV, indexAddrV, live, upd, pget, pset, psetA, pagg, retag, retagP, byteAV, freezeP, freezeV, joinTags, joinTag, tags, ids, scalar, cellsLen, eqV, convV, faV, fvV, shiftBy, shiftRo, hOw, assignV])
  have hby : ∀ E, Byt (some obo :: E) (.sl 0 0 b.length 0) b := fun E => OwnB.byt rfl hO
  have hR1 := fun E => read_ev (hby E) (by omega)
  have hR2 := fun E => rread_ev (hro (some obo :: E)) (by omega)
  have hC1 := fun E => readCount_ev (hby E) (by omega)
  have hC2 := fun E => rreadCount_ev (hro (some obo :: E)) (by omega)
  have hK := fun E => kept_ev (H := some obo :: E) (o := 0) (t := 1) rfl hO hc (by omega)
  generalize hx : (rdC b).1 = x at *
  apply Tells.seq (fr' := [(0, .ro c (.pb b) 1), (3, .sl 0 0 b.length 0), (4, .ptr 1 0 0 0), (5, .int .i64 (rdC b).2)]) (H' := [some obo, some (coO x)])
  · simp only [Co.pay] at hR1
    generalize (rdC b).2 = e at *
    (refine ⟨0, ?_⟩; simp (maxSteps := 2000000) -implicitDefEqProofs [-getElem?_pos, List.getElem?_cons_zero, List.getElem?_cons_succ, exec, runOps, dstOk, wantedV, AM.step, evalT, evalO, evalArgs, evalParts, getF, putF, afterRegion, assignV, boxOf, newBox, hasIdsP, keepF, ofVal, ofCell, plen, pesz, callV, builtinV, lenV, binV, unV, arith, shiftI, loadV, storeV, putV, indexAddrV, live, upd, pget, pset, psetA, pagg, retag, retagP, byteAV, freezeP, freezeV, joinTags, joinTag, tags, ids, scalar, cellsLen, eqV, convV, faV, fvV, shiftBy, shiftRo, hR1, coO, Co.pay, flatCells, splice, scalars, scalar, mkCo])
  apply Tells.seq (fr' := [(0, .ro c (.pb b) 1), (3, .sl 0 0 b.length 0), (4, .ptr 1 0 0 0), (5, .int .i64 (rdC b).2), (6, .ptr 2 0 0 0), (7, .int .i64 (rdC b).2)]) (H' := [some obo, some (coO x), some (coO x)])
  · simp only [Co.pay] at hR2
    generalize (rdC b).2 = e at *
    (refine ⟨0, ?_⟩; simp (maxSteps := 2000000) -implicitDefEqProofs [-getElem?_pos, List.getElem?_cons_zero, List.getElem?_cons_succ, exec, runOps, dstOk, wantedV, AM.step, evalT, evalO, evalArgs, evalParts, getF, putF, afterRegion, assignV, boxOf, newBox, hasIdsP, keepF, ofVal, ofCell, plen, pesz, callV, builtinV, lenV, binV, unV, arith, shiftI, loadV, storeV, putV, indexAddrV, live, upd, pget, pset, psetA, pagg, retag, retagP, byteAV, freezeP, freezeV, joinTags, joinTag, tags, ids, scalar, cellsLen, eqV, convV, faV, fvV, shiftBy, shiftRo, hR2, coO, Co.pay, flatCells, splice, scalars, scalar, mkCo])
  have hEq := fun H xo yo => eqCoR x H xo yo
  simp only [Co.pay] at hEq
  generalize (rdC b).2 = e at *
  generalize rcR b = r at *
  refine Tells.of (o := ⟨.ret, [(2, .bool true)], [some obo, some (coO x), some (coO x)]⟩) ⟨0, ?_⟩ ⟨rfl, rfl⟩
  simp (maxSteps := 2000000) -implicitDefEqProofs [-getElem?_pos, List.getElem?_cons_zero, List.getElem?_cons_succ, exec, runOps, dstOk, wantedV, AM.step, evalT, evalO, evalArgs, evalParts, getF, putF, afterRegion, assignV, boxOf, newBox, hasIdsP, keepF, ofVal, ofCell, plen, pesz, callV, builtinV, lenV, binV, unV, arith, shiftI, loadV, storeV, putV, indexAddrV, live, upd, pget, pset, psetA, pagg, retag, retagP, byteAV, freezeP, freezeV, joinTags, joinTag, tags, ids, scalar, cellsLen, eqV, convV, faV, fvV, shiftBy, shiftRo, -eqV, coO, Co.pay, mkCo, hC1, hC2, hEq, hK]

end

end Go.Proofs.Ytkgchoknkakcgaa
