/- Walks: the document's Check. -/
import Derived.Test.YtikleidhmekgnaaW6
namespace Go.Proofs.Ytikleidhmekgnaa
open Go.AM
set_option linter.unusedSimpArgs false
set_option linter.unusedVariables false

/-- the document's sum -/
def rsumL : List Int → Int → Int × Int
  | [], s => (s, 0)
  | x :: r, s => if 0 ≤ x ∧ x ≤ 15 then rsumL r (if 0 < x then IntKind.i64.wrap (s + IntKind.i64.wrap (2 ^ (min (15 - x).toNat 64))) else s) else (s, 2)

def rcheckR (l : List Int) : Bool × Int :=
  if 320 < (l.length : Int) then (false, 3) else
  if (rsumL l 0).2 = 0 then (if 32768 < (rsumL l 0).1 then (false, 7) else ((rsumL l 0).1 == 32768, 0)) else (false, 2)

def rckFr (c : Nat) (l : List Int) (s : Int) (i : Nat) : AM.Frame := [(0, .ro c (.pi .i64 l) 1), (4, .int .i64 s), (5, .int .i64 (i : Nat))]

def rckO (c : Nat) (l todo : List Int) (s : Int) : AM.Out :=
  if (rsumL todo s).2 = 0 then ⟨.exit 0, rckFr c l (rsumL todo s).1 l.length ++ [(12, .bool false)], []⟩ else ⟨.ret, [(2, .bool false), (3, .int .i64 2)], []⟩

theorem rckO_ne (c : Nat) (l todo : List Int) (s : Int) : (rckO c l todo s).ex ≠ .normal := by
  unfold rckO; split <;> simp

theorem rsumL_two : ∀ (l : List Int) (s : Int), (rsumL l s).2 = 0 ∨ (rsumL l s).2 = 2
  | [], s => .inl rfl
  | x :: r, s => by
    simp only [rsumL]
    split
    · exact rsumL_two r _
    · exact .inr rfl

set_option maxRecDepth 100000 in
theorem rcheck_code (T : Cf) (c : Nat) (l : List Int) (h63 : l.length < 9223372036854775808) : ∃ code, Try.f15.body = some code ∧
    Run X T 15 0 code [(0, .ro c (.pi .i64 l) 1)] [] ⟨.ret, [(2, .bool (rcheckR l).1), (3, .int .i64 (rcheckR l).2)], []⟩ := by
  refine ⟨_, rfl, ?_⟩
  by_cases hl : 320 < (l.length : Int)
  · simp only [rcheckR, hl, if_true]
    refine ⟨0, ?_⟩
    simp -implicitDefEqProofs [-getElem?_pos, List.getElem?_cons_zero, List.getElem?_cons_succ, exec, runOps, dstOk, wantedV, AM.step, evalT, evalO, evalArgs, evalParts, getF, putF, afterRegion, assignV, boxOf, newBox, hasIdsP, keepF, ofVal, ofCell, plen, pesz, callV, builtinV, lenV, binV, unV, arith, shiftI, loadV, storeV, putV, indexAddrV, live, upd, pget, pset, psetA, pagg, retag, retagP, byteAV, freezeP, freezeV, joinTags, joinTag, tags, ids, scalar, cellsLen, eqV, convV, faV, fvV, shiftBy, shiftRo, hl]
  · simp only [rcheckR, hl, if_false]
    apply Run.seq
    · (refine ⟨0, ?_⟩; conv => lhs; simp -implicitDefEqProofs [-getElem?_pos, List.getElem?_cons_zero, List.getElem?_cons_succ, exec, runOps, dstOk, wantedV, AM.step, evalT, evalO, evalArgs, evalParts, getF, putF, afterRegion, assignV, boxOf, newBox, hasIdsP, keepF, ofVal, ofCell, plen, pesz, callV, builtinV, lenV, binV, unV, arith, shiftI, loadV, storeV, putV, indexAddrV, live, upd, pget, pset, psetA, pagg, retag, retagP, byteAV, freezeP, freezeV, joinTags, joinTag, tags, ids, scalar, cellsLen, eqV, convV, faV, fvV, shiftBy, shiftRo])
    apply Run.seq
    · (refine ⟨0, ?_⟩; conv => lhs; simp -implicitDefEqProofs [-getElem?_pos, List.getElem?_cons_zero, List.getElem?_cons_succ, exec, runOps, dstOk, wantedV, AM.step, evalT, evalO, evalArgs, evalParts, getF, putF, afterRegion, assignV, boxOf, newBox, hasIdsP, keepF, ofVal, ofCell, plen, pesz, callV, builtinV, lenV, binV, unV, arith, shiftI, loadV, storeV, putV, indexAddrV, live, upd, pget, pset, psetA, pagg, retag, retagP, byteAV, freezeP, freezeV, joinTags, joinTag, tags, ids, scalar, cellsLen, eqV, convV, faV, fvV, shiftBy, shiftRo, hl])
    apply Run.seq
    · (refine ⟨0, ?_⟩; conv => lhs; simp -implicitDefEqProofs [-getElem?_pos, List.getElem?_cons_zero, List.getElem?_cons_succ, exec, runOps, dstOk, wantedV, AM.step, evalT, evalO, evalArgs, evalParts, getF, putF, afterRegion, assignV, boxOf, newBox, hasIdsP, keepF, ofVal, ofCell, plen, pesz, callV, builtinV, lenV, binV, unV, arith, shiftI, loadV, storeV, putV, indexAddrV, live, upd, pget, pset, psetA, pagg, retag, retagP, byteAV, freezeP, freezeV, joinTags, joinTag, tags, ids, scalar, cellsLen, eqV, convV, faV, fvV, shiftBy, shiftRo])
    apply Run.seq' (o := blockOut 0 (rckO c l l 0))
    · apply Run.seq (fr' := rckFr c l 0 0) (H' := [])
      · (refine ⟨0, ?_⟩; simp -implicitDefEqProofs [-getElem?_pos, List.getElem?_cons_zero, List.getElem?_cons_succ, exec, runOps, dstOk, wantedV, AM.step, evalT, evalO, evalArgs, evalParts, getF, putF, afterRegion, assignV, boxOf, newBox, hasIdsP, keepF, ofVal, ofCell, plen, pesz, callV, builtinV, lenV, binV, unV, arith, shiftI, loadV, storeV, putV, indexAddrV, live, upd, pget, pset, psetA, pagg, retag, retagP, byteAV, freezeP, freezeV, joinTags, joinTag, tags, ids, scalar, cellsLen, eqV, convV, faV, fvV, shiftBy, shiftRo, rckFr])
      · apply Run.block'
        refine Run.loop_rule (σ := Int × List Int × List Int) (fun t => t.2.1 ++ t.2.2 = l) (fun t => rckFr c l t.1 t.2.1.length) (fun _ => []) (fun t => rckO c l t.2.2 t.1) (fun t => t.2.2.length) ?_ (0, [], l) rfl
        rintro ⟨s, done, todo⟩ hd
        simp only at hd ⊢
        cases todo with
        | nil =>
          right
          have hlen : done.length = l.length := by rw [← hd]; simp
          refine ⟨?_, rckO_ne c l _ s⟩
          simp only [rckO, rsumL, if_true]
          apply Run.seq_out
          · (refine ⟨0, ?_⟩; simp -implicitDefEqProofs [-getElem?_pos, List.getElem?_cons_zero, List.getElem?_cons_succ, exec, runOps, dstOk, wantedV, AM.step, evalT, evalO, evalArgs, evalParts, getF, putF, afterRegion, assignV, boxOf, newBox, hasIdsP, keepF, ofVal, ofCell, plen, pesz, callV, builtinV, lenV, binV, unV, arith, shiftI, loadV, storeV, putV, indexAddrV, live, upd, pget, pset, psetA, pagg, retag, retagP, byteAV, freezeP, freezeV, joinTags, joinTag, tags, ids, scalar, cellsLen, eqV, convV, faV, fvV, shiftBy, shiftRo, hlen, rckFr])
          · simp
        | cons x todo =>
          have hlt : done.length < l.length := by rw [← hd]; simp
          have hget : l[done.length]? = some x := by rw [← hd]; simp
          have hltI : (done.length : Int) < (l.length : Int) := by omega
          by_cases hx : 0 ≤ x ∧ x ≤ 15
          · left
            refine ⟨((if 0 < x then IntKind.i64.wrap (s + IntKind.i64.wrap (2 ^ (min (15 - x).toNat 64))) else s), done ++ [x], todo), by simpa using hd, ?_, ?_, by simp⟩
            · have hx1 : ¬ x < 0 := by omega
              have hx2 : ¬ 15 < x := by omega
              have e : IntKind.i64.wrap ((done.length : Int) + 1) = (done.length : Int) + 1 := wrap_i64 (by omega) (by omega)
              have e1 : IntKind.i64.wrap (15 - x) = 15 - x := wrap_i64 (by omega) (by omega)
              have e2 : IntKind.u64.wrap (15 - x) = 15 - x := wrap_u64 (by omega) (by omega)
              have e3 : ¬ (15 - x < 0) := by omega
              apply Run.seq
              · (refine ⟨0, ?_⟩; conv => lhs; simp -implicitDefEqProofs [-getElem?_pos, List.getElem?_cons_zero, List.getElem?_cons_succ, exec, runOps, dstOk, wantedV, AM.step, evalT, evalO, evalArgs, evalParts, getF, putF, afterRegion, assignV, boxOf, newBox, hasIdsP, keepF, ofVal, ofCell, plen, pesz, callV, builtinV, lenV, binV, unV, arith, shiftI, loadV, storeV, putV, indexAddrV, live, upd, pget, pset, psetA, pagg, retag, retagP, byteAV, freezeP, freezeV, joinTags, joinTag, tags, ids, scalar, cellsLen, eqV, convV, faV, fvV, shiftBy, shiftRo, hltI, rckFr])
              by_cases hx0 : 0 < x
              · apply Run.seq
                · (refine ⟨0, ?_⟩; conv => lhs; simp -implicitDefEqProofs [-getElem?_pos, List.getElem?_cons_zero, List.getElem?_cons_succ, exec, runOps, dstOk, wantedV, AM.step, evalT, evalO, evalArgs, evalParts, getF, putF, afterRegion, assignV, boxOf, newBox, hasIdsP, keepF, ofVal, ofCell, plen, pesz, callV, builtinV, lenV, binV, unV, arith, shiftI, loadV, storeV, putV, indexAddrV, live, upd, pget, pset, psetA, pagg, retag, retagP, byteAV, freezeP, freezeV, joinTags, joinTag, tags, ids, scalar, cellsLen, eqV, convV, faV, fvV, shiftBy, shiftRo, hget, hlt, hx1, hx2, hx0, e1, e2, e3, IntKind.bits])
                · (refine ⟨0, ?_⟩; simp -implicitDefEqProofs [-getElem?_pos, List.getElem?_cons_zero, List.getElem?_cons_succ, exec, runOps, dstOk, wantedV, AM.step, evalT, evalO, evalArgs, evalParts, getF, putF, afterRegion, assignV, boxOf, newBox, hasIdsP, keepF, ofVal, ofCell, plen, pesz, callV, builtinV, lenV, binV, unV, arith, shiftI, loadV, storeV, putV, indexAddrV, live, upd, pget, pset, psetA, pagg, retag, retagP, byteAV, freezeP, freezeV, joinTags, joinTag, tags, ids, scalar, cellsLen, eqV, convV, faV, fvV, shiftBy, shiftRo, e, rckFr, hx0])
              · apply Run.seq
                · (refine ⟨0, ?_⟩; conv => lhs; simp -implicitDefEqProofs [-getElem?_pos, List.getElem?_cons_zero, List.getElem?_cons_succ, exec, runOps, dstOk, wantedV, AM.step, evalT, evalO, evalArgs, evalParts, getF, putF, afterRegion, assignV, boxOf, newBox, hasIdsP, keepF, ofVal, ofCell, plen, pesz, callV, builtinV, lenV, binV, unV, arith, shiftI, loadV, storeV, putV, indexAddrV, live, upd, pget, pset, psetA, pagg, retag, retagP, byteAV, freezeP, freezeV, joinTags, joinTag, tags, ids, scalar, cellsLen, eqV, convV, faV, fvV, shiftBy, shiftRo, hget, hlt, hx1, hx2, hx0])
                · (refine ⟨0, ?_⟩; simp -implicitDefEqProofs [-getElem?_pos, List.getElem?_cons_zero, List.getElem?_cons_succ, exec, runOps, dstOk, wantedV, AM.step, evalT, evalO, evalArgs, evalParts, getF, putF, afterRegion, assignV, boxOf, newBox, hasIdsP, keepF, ofVal, ofCell, plen, pesz, callV, builtinV, lenV, binV, unV, arith, shiftI, loadV, storeV, putV, indexAddrV, live, upd, pget, pset, psetA, pagg, retag, retagP, byteAV, freezeP, freezeV, joinTags, joinTag, tags, ids, scalar, cellsLen, eqV, convV, faV, fvV, shiftBy, shiftRo, e, rckFr, hx0])
            · simp [rckO, rsumL, hx]
          · right
            refine ⟨?_, rckO_ne c l _ s⟩
            simp only [rckO, rsumL, hx, if_false]
            apply Run.seq
            · (refine ⟨0, ?_⟩; conv => lhs; simp -implicitDefEqProofs [-getElem?_pos, List.getElem?_cons_zero, List.getElem?_cons_succ, exec, runOps, dstOk, wantedV, AM.step, evalT, evalO, evalArgs, evalParts, getF, putF, afterRegion, assignV, boxOf, newBox, hasIdsP, keepF, ofVal, ofCell, plen, pesz, callV, builtinV, lenV, binV, unV, arith, shiftI, loadV, storeV, putV, indexAddrV, live, upd, pget, pset, psetA, pagg, retag, retagP, byteAV, freezeP, freezeV, joinTags, joinTag, tags, ids, scalar, cellsLen, eqV, convV, faV, fvV, shiftBy, shiftRo, hltI, rckFr])
            apply Run.seq_out
            · by_cases hx1 : x < 0
              · (refine ⟨0, ?_⟩; simp -implicitDefEqProofs [-getElem?_pos, List.getElem?_cons_zero, List.getElem?_cons_succ, exec, runOps, dstOk, wantedV, AM.step, evalT, evalO, evalArgs, evalParts, getF, putF, afterRegion, assignV, boxOf, newBox, hasIdsP, keepF, ofVal, ofCell, plen, pesz, callV, builtinV, lenV, binV, unV, arith, shiftI, loadV, storeV, putV, indexAddrV, live, upd, pget, pset, psetA, pagg, retag, retagP, byteAV, freezeP, freezeV, joinTags, joinTag, tags, ids, scalar, cellsLen, eqV, convV, faV, fvV, shiftBy, shiftRo, hget, hlt, hx1])
              · have hx2 : 15 < x := by omega
                (refine ⟨0, ?_⟩; simp -implicitDefEqProofs [-getElem?_pos, List.getElem?_cons_zero, List.getElem?_cons_succ, exec, runOps, dstOk, wantedV, AM.step, evalT, evalO, evalArgs, evalParts, getF, putF, afterRegion, assignV, boxOf, newBox, hasIdsP, keepF, ofVal, ofCell, plen, pesz, callV, builtinV, lenV, binV, unV, arith, shiftI, loadV, storeV, putV, indexAddrV, live, upd, pget, pset, psetA, pagg, retag, retagP, byteAV, freezeP, freezeV, joinTags, joinTag, tags, ids, scalar, cellsLen, eqV, convV, faV, fvV, shiftBy, shiftRo, hget, hlt, hx1, hx2])
            · simp
    · intro fr' H' h
      unfold rckO at h
      split at h
      · rename_i hw
        simp only [blockOut, if_true, Out.mk.injEq, true_and] at h
        obtain ⟨rfl, rfl⟩ := h
        simp only [hw, if_true]
        by_cases hs : 32768 < (rsumL l 0).1
        · simp only [hs, if_true]
          refine ⟨0, ?_⟩
          simp -implicitDefEqProofs [-getElem?_pos, List.getElem?_cons_zero, List.getElem?_cons_succ, exec, runOps, dstOk, wantedV, AM.step, evalT, evalO, evalArgs, evalParts, getF, putF, afterRegion, assignV, boxOf, newBox, hasIdsP, keepF, ofVal, ofCell, plen, pesz, callV, builtinV, lenV, binV, unV, arith, shiftI, loadV, storeV, putV, indexAddrV, live, upd, pget, pset, psetA, pagg, retag, retagP, byteAV, freezeP, freezeV, joinTags, joinTag, tags, ids, scalar, cellsLen, eqV, convV, faV, fvV, shiftBy, shiftRo, rckFr, hs]
        · simp only [hs, if_false]
          refine ⟨0, ?_⟩
          simp -implicitDefEqProofs [-getElem?_pos, List.getElem?_cons_zero, List.getElem?_cons_succ, exec, runOps, dstOk, wantedV, AM.step, evalT, evalO, evalArgs, evalParts, getF, putF, afterRegion, assignV, boxOf, newBox, hasIdsP, keepF, ofVal, ofCell, plen, pesz, callV, builtinV, lenV, binV, unV, arith, shiftI, loadV, storeV, putV, indexAddrV, live, upd, pget, pset, psetA, pagg, retag, retagP, byteAV, freezeP, freezeV, joinTags, joinTag, tags, ids, scalar, cellsLen, eqV, convV, faV, fvV, shiftBy, shiftRo, rckFr, hs]
      · simp [blockOut] at h
    · intro h
      unfold rckO at h ⊢
      split at h
      · simp [blockOut] at h
      · rename_i hw
        rw [if_neg hw, if_neg hw]
        rfl

end Go.Proofs.Ytikleidhmekgnaa
