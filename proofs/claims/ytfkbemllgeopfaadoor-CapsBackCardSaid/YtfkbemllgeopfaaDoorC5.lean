/- Walks: lists of texts compared, and looked through. -/
import Derived.Test.YtfkbemllgeopfaaDoorC2
namespace Go.Proofs.YtfkbemllgeopfaaDoor
open Go.AM
set_option linter.unusedSimpArgs false
set_option linter.unusedVariables false

/-- texts as a payload -/
def tx (l : List (List UInt8)) : AV := .pc (l.map .str)

theorem tx_at {l : List (List UInt8)} {i : Nat} {s : List UInt8} (h : l[i]? = some s) : (l.map AV.str)[i]? = some (.str s) := by rw [List.getElem?_map, h]; rfl
theorem tx_len (l : List (List UInt8)) : (l.map AV.str).length = l.length := by simp

section
variable (c c2 : Nat) (a b : List (List UInt8))

def saFr (i : Nat) : AM.Frame := [(0, .ro c (tx a) 1), (1, .ro c2 (tx b) 2), (5, .int .i64 (i : Nat))]

set_option maxRecDepth 100000 in
theorem same_code (ha : a.length < 9223372036854775808) : ∃ code, Tryd.f11.body = some code ∧
    Tells (Rets fun fr H => fr = [(4, .bool (a == b))] ∧ H = []) X (evT X) 11 0 code [(0, .ro c (tx a) 1), (1, .ro c2 (tx b) 2)] [] := by
  refine ⟨_, rfl, ?_⟩
  by_cases hl : a.length = b.length
  · apply Tells.seq
    · (refine ⟨0, ?_⟩; conv => lhs; simp (maxSteps := 2000000) -implicitDefEqProofs [-getElem?_pos, List.getElem?_cons_zero, List.getElem?_cons_succ, exec, runOps, dstOk, wantedV, AM.step, evalT, evalO, evalArgs, evalParts, getF, putF, afterRegion, assignV, boxOf, newBox, hasIdsP, keepF, ofVal, ofCell, plen, pesz, callV, builtinV, lenV, binV, unV, arith, shiftI, loadV, storeV, putV, indexAddrV, live, upd, pget, pset, psetA, pagg, retag, retagP, byteAV, freezeP, freezeV, joinTags, joinTag, tags, ids, scalar, cellsLen, eqV, convV, faV, fvV, shiftBy, shiftRo])
    apply Tells.seq
    · (refine ⟨0, ?_⟩; conv => lhs; simp (maxSteps := 2000000) -implicitDefEqProofs [-getElem?_pos, List.getElem?_cons_zero, List.getElem?_cons_succ, exec, runOps, dstOk, wantedV, AM.step, evalT, evalO, evalArgs, evalParts, getF, putF, afterRegion, assignV, boxOf, newBox, hasIdsP, keepF, ofVal, ofCell, plen, pesz, callV, builtinV, lenV, binV, unV, arith, shiftI, loadV, storeV, putV, indexAddrV, live, upd, pget, pset, psetA, pagg, retag, retagP, byteAV, freezeP, freezeV, joinTags, joinTag, tags, ids, scalar, cellsLen, eqV, convV, faV, fvV, shiftBy, shiftRo, tx, hl])
    apply Tells.assoc
    apply Tells.seq (fr' := saFr c c2 a b 0) (H' := [])
    · (refine ⟨0, ?_⟩; simp (maxSteps := 2000000) -implicitDefEqProofs [-getElem?_pos, List.getElem?_cons_zero, List.getElem?_cons_succ, exec, runOps, dstOk, wantedV, AM.step, evalT, evalO, evalArgs, evalParts, getF, putF, afterRegion, assignV, boxOf, newBox, hasIdsP, keepF, ofVal, ofCell, plen, pesz, callV, builtinV, lenV, binV, unV, arith, shiftI, loadV, storeV, putV, indexAddrV, live, upd, pget, pset, psetA, pagg, retag, retagP, byteAV, freezeP, freezeV, joinTags, joinTag, tags, ids, scalar, cellsLen, eqV, convV, faV, fvV, shiftBy, shiftRo, saFr, tx])
    apply Tells.blockThen (P := fun fr H => a = b ∧ fr = saFr c c2 a b a.length ++ [(14, .bool false)] ∧ H = [])
    · refine Tells.loop (σ := Nat) (fun i => i ≤ a.length ∧ a.take i = b.take i) (fun i => saFr c c2 a b i) (fun _ => []) (fun i => a.length - i) ?_ 0 ⟨by omega, rfl⟩
      rintro i ⟨hi, ht⟩
      by_cases he : i = a.length
      · right
        subst he
        have hab : a = b := by
          rw [List.take_length] at ht
          rw [ht, hl, List.take_length]
        refine ⟨⟨.exit 0, saFr c c2 a b a.length ++ [(14, .bool false)], []⟩, .inl ⟨rfl, hab, rfl, rfl⟩, by simp, ?_⟩
        (refine ⟨0, ?_⟩; simp (maxSteps := 2000000) -implicitDefEqProofs [-getElem?_pos, List.getElem?_cons_zero, List.getElem?_cons_succ, exec, runOps, dstOk, wantedV, AM.step, evalT, evalO, evalArgs, evalParts, getF, putF, afterRegion, assignV, boxOf, newBox, hasIdsP, keepF, ofVal, ofCell, plen, pesz, callV, builtinV, lenV, binV, unV, arith, shiftI, loadV, storeV, putV, indexAddrV, live, upd, pget, pset, psetA, pagg, retag, retagP, byteAV, freezeP, freezeV, joinTags, joinTag, tags, ids, scalar, cellsLen, eqV, convV, faV, fvV, shiftBy, shiftRo, saFr, tx])
      · have hlt : i < a.length := by omega
        have hltI : (i : Int) < (a.length : Int) := by omega
        have hltb : (i : Int) < (b.length : Int) := by omega
        obtain ⟨s, hs⟩ : ∃ s, a[i]? = some s := ⟨a[i], List.getElem?_eq_getElem hlt⟩
        obtain ⟨t, hb⟩ : ∃ t, b[i]? = some t := ⟨b[i], List.getElem?_eq_getElem (by omega)⟩
        have hsa := tx_at hs
        have hta := tx_at hb
        have w1 : IntKind.i64.wrap ((i : Int) + 1) = ((i + 1 : Nat) : Int) := by rw [wrap_i64 (by omega) (by omega)]; omega
        by_cases hst : s = t
        · left
          refine ⟨i + 1, ⟨by omega, by rw [List.take_add_one, List.take_add_one, hs, hb, ht, hst]⟩, ?_, by omega⟩
          subst hst
          (refine ⟨0, ?_⟩; simp (maxSteps := 2000000) -implicitDefEqProofs [-getElem?_pos, List.getElem?_cons_zero, List.getElem?_cons_succ, exec, runOps, dstOk, wantedV, AM.step, evalT, evalO, evalArgs, evalParts, getF, putF, afterRegion, assignV, boxOf, newBox, hasIdsP, keepF, ofVal, ofCell, plen, pesz, callV, builtinV, lenV, binV, unV, arith, shiftI, loadV, storeV, putV, indexAddrV, live, upd, pget, pset, psetA, pagg, retag, retagP, byteAV, freezeP, freezeV, joinTags, joinTag, tags, ids, scalar, cellsLen, eqV, convV, faV, fvV, shiftBy, shiftRo, saFr, tx, hltI, hltb, hsa, hta, w1, strOp])
        · right
          have hne : ¬ a = b := fun e => by rw [e, hb] at hs; exact hst (Option.some.inj hs).symm
          have hbq : (a == b) = false := by simpa using hne
          refine ⟨⟨.ret, [(4, .bool false)], []⟩, .inr ⟨rfl, rfl, by rw [hbq], rfl⟩, by simp, ?_⟩
          (refine ⟨0, ?_⟩; simp (maxSteps := 2000000) -implicitDefEqProofs [-getElem?_pos, List.getElem?_cons_zero, List.getElem?_cons_succ, exec, runOps, dstOk, wantedV, AM.step, evalT, evalO, evalArgs, evalParts, getF, putF, afterRegion, assignV, boxOf, newBox, hasIdsP, keepF, ofVal, ofCell, plen, pesz, callV, builtinV, lenV, binV, unV, arith, shiftI, loadV, storeV, putV, indexAddrV, live, upd, pget, pset, psetA, pagg, retag, retagP, byteAV, freezeP, freezeV, joinTags, joinTag, tags, ids, scalar, cellsLen, eqV, convV, faV, fvV, shiftBy, shiftRo, saFr, tx, hltI, hltb, hsa, hta, w1, strOp, hst])
    · rintro fr H ⟨hab, rfl, rfl⟩
      have hbq : (a == b) = true := by simpa using hab
      refine Tells.of (o := ⟨.ret, [(4, .bool (a == b))], []⟩) ?_ ⟨rfl, rfl, rfl⟩
      refine ⟨0, ?_⟩
      simp (maxSteps := 2000000) -implicitDefEqProofs [-getElem?_pos, List.getElem?_cons_zero, List.getElem?_cons_succ, exec, runOps, dstOk, wantedV, AM.step, evalT, evalO, evalArgs, evalParts, getF, putF, afterRegion, assignV, boxOf, newBox, hasIdsP, keepF, ofVal, ofCell, plen, pesz, callV, builtinV, lenV, binV, unV, arith, shiftI, loadV, storeV, putV, indexAddrV, live, upd, pget, pset, psetA, pagg, retag, retagP, byteAV, freezeP, freezeV, joinTags, joinTag, tags, ids, scalar, cellsLen, eqV, convV, faV, fvV, shiftBy, shiftRo, saFr, hbq]
  · have hne : ¬ a = b := fun e => hl (by rw [e])
    have hbq : (a == b) = false := by simpa using hne
    have hlI : ((a.length : Int) != (b.length : Int)) = true := by simp; omega
    refine Tells.of (o := ⟨.ret, [(4, .bool (a == b))], []⟩) ?_ ⟨rfl, rfl, rfl⟩
    refine ⟨0, ?_⟩
    rw [hbq]
    simp (maxSteps := 2000000) -implicitDefEqProofs [-getElem?_pos, List.getElem?_cons_zero, List.getElem?_cons_succ, exec, runOps, dstOk, wantedV, AM.step, evalT, evalO, evalArgs, evalParts, getF, putF, afterRegion, assignV, boxOf, newBox, hasIdsP, keepF, ofVal, ofCell, plen, pesz, callV, builtinV, lenV, binV, unV, arith, shiftI, loadV, storeV, putV, indexAddrV, live, upd, pget, pset, psetA, pagg, retag, retagP, byteAV, freezeP, freezeV, joinTags, joinTag, tags, ids, scalar, cellsLen, eqV, convV, faV, fvV, shiftBy, shiftRo, tx, hl, hlI]

end

end Go.Proofs.YtfkbemllgeopfaaDoor
