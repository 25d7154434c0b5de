/- Walks: Read, its choice of an execute, and all of it. -/
import Derived.Test.YtmdciglfpedhgaaDoorK2
namespace Go.Proofs.YtmdciglfpedhgaaDoor
open Go.AM
set_option linter.unusedSimpArgs false
set_option linter.unusedVariables false

theorem condT {C : Ctx} {T : Cf} {f m : Nat} {fr : AM.Frame} {H : AM.Heap} {o : AM.Out} {c : Operand} {a b : Code} (hc : evalO C fr c = .bool true) (h : Run C T f m a fr H o) : Run C T f m (.cond c a b) fr H o :=
  Run.cond hc (by rw [if_pos rfl]; exact h)
theorem condF {C : Ctx} {T : Cf} {f m : Nat} {fr : AM.Frame} {H : AM.Heap} {o : AM.Out} {c : Operand} {a b : Code} (hc : evalO C fr c = .bool false) (h : Run C T f m b fr H o) : Run C T f m (.cond c a b) fr H o :=
  Run.cond hc (by rw [if_neg (by simp)]; exact h)

section
variable {c : Nat} {s : St} {k : Nat}

set_option maxRecDepth 100000 in
theorem blk3 (hc : c = 0 → s.1 = []) (hb : s.1.length ≤ 1000000) (z : Option AM.Obj) (s3 s5 : St)
    (h3 : s3 = if (fx 1 (fx 4 s).2).2.2 = 0 ∧ 1 < (fx 1 (fx 4 s).2).1 then ((fx 1 (fx 4 s).2).2.1, 5) else (fx 1 (fx 4 s).2).2)
    (h5 : s5 = if (fx 4 s3).1 ≠ 1 ∧ (fx 4 s3).2.2 = 0 then ((fx 4 s3).2.1, 5) else (fx 4 s3).2) : ∃ code, blkO = some code ∧
    Tells (Goes (blkP z ({ k := k, st := (fx 4 s).1, fl := (fx 1 (fx 4 s).2).1, dat := s5.1 }, ([], s5.2)))) X (evT X) 19 0 code (blkFr 3) [z, some (rdO c 1 1 s), some (cmO { k := k } (.ro 0 .pn 0))] := by
  refine ⟨_, rfl, ?_⟩
  have hF := fix3 (N := 4) (n := 4) rfl hc hb (by omega) (by omega) z (some (cmO { k := k } (.ro 0 .pn 0)))
  have w := fx_lt (n := 4) s
  have hl := fx_len 4 s
  have hc' := fx_nil (n := 4) hc
  have w4 : IntKind.u32.wrap ((fx 4 s).1 : Nat) = ((fx 4 s).1 : Nat) := wrap_u32 (by omega) (by omega)
  generalize fx 4 s = r at *
  have hF2 := fix3 (s := r.2) (N := 1) (n := 1) rfl hc' (by omega) (by omega) (by omega) z (some (cmO { k := k } (.ro 0 .pn 0)))
  have w2 := fx_lt (n := 1) r.2
  have hl2 := fx_len 1 r.2
  have hc2 := fx_nil (n := 1) hc'
  have w42 : IntKind.u8.wrap ((fx 1 r.2).1 : Nat) = ((fx 1 r.2).1 : Nat) := wrap_u8 (by omega) (by omega)
  generalize fx 1 r.2 = r2 at *
  simp only [cmO, Cm.pay, Int.cast_ofNat_Int] at hF hF2
  have hl3 : s3.1.length ≤ 1000000 := by rw [h3]; split <;> first | omega | (simp only; omega)
  have hc3 : c = 0 → s3.1 = [] := by rw [h3]; split <;> exact hc2
  have hF4 := fix3 (s := s3) (N := 4) (n := 4) rfl hc3 hl3 (by omega) (by omega) z (some (cmO { k := k, st := r.1, fl := r2.1 } (.ro 0 .pn 0)))
  have hl4 := fx_len 4 s3
  have hc4 := fx_nil (n := 4) hc3
  generalize fx 4 s3 = r4 at *
  have hl5 : s5.1.length ≤ 1000000 := by rw [h5]; split <;> first | omega | (simp only; omega)
  have hc5 : c = 0 → s5.1 = [] := by rw [h5]; split <;> exact hc4
  obtain ⟨ob, hw, hR⟩ := rest3 (s := s5) hc5 hl5 z (some (cmO { k := k, st := r.1, fl := r2.1 } (.ro 0 .pn 0)))
  simp only [cmO, Cm.pay, Int.cast_ofNat_Int] at hF4 hR
  refine Tells.of (o := ⟨.normal, blkE, [z, some (rdN 1 s5.2), some (cmO { k := k, st := r.1, fl := r2.1, dat := s5.1 } (.sl 3 0 s5.1.length 0)), some ob]⟩) ?_ ⟨rfl, _, .sl 3 0 s5.1.length 0, [some ob], [], rfl, rfl, .inr ⟨rfl, rfl⟩, .inr ⟨3, ob, rfl, by omega, rfl, hw⟩⟩
  refine Run.block ?_ (by simp)
  apply Run.seq
  · (refine ⟨0, ?_⟩; conv => lhs; simp (maxSteps := 2000000) -implicitDefEqProofs [-getElem?_pos, List.getElem?_cons_zero, List.getElem?_cons_succ, exec, runOps, dstOk, wantedV, AM.step, evalT, evalO, evalArgs, evalParts, getF, putF, afterRegion, assignV, boxOf, newBox, hasIdsP, keepF, ofVal, ofCell, plen, pesz, callV, builtinV, lenV, binV, unV, arith, shiftI, loadV, storeV, putV, indexAddrV, live, upd, pget, pset, psetA, pagg, retag, retagP, byteAV, freezeP, freezeV, joinTags, joinTag, tags, ids, scalar, cellsLen, eqV, convV, faV, fvV, shiftBy, shiftRo, blkFr])
  refine condF (by simp [evalO, getF]) ?_
  apply Run.seq
  · (refine ⟨0, ?_⟩; conv => lhs; simp (maxSteps := 2000000) -implicitDefEqProofs [-getElem?_pos, List.getElem?_cons_zero, List.getElem?_cons_succ, exec, runOps, dstOk, wantedV, AM.step, evalT, evalO, evalArgs, evalParts, getF, putF, afterRegion, assignV, boxOf, newBox, hasIdsP, keepF, ofVal, ofCell, plen, pesz, callV, builtinV, lenV, binV, unV, arith, shiftI, loadV, storeV, putV, indexAddrV, live, upd, pget, pset, psetA, pagg, retag, retagP, byteAV, freezeP, freezeV, joinTags, joinTag, tags, ids, scalar, cellsLen, eqV, convV, faV, fvV, shiftBy, shiftRo])
  refine condF (by simp [evalO, getF]) ?_
  apply Run.seq
  · (refine ⟨0, ?_⟩; conv => lhs; simp (maxSteps := 2000000) -implicitDefEqProofs [-getElem?_pos, List.getElem?_cons_zero, List.getElem?_cons_succ, exec, runOps, dstOk, wantedV, AM.step, evalT, evalO, evalArgs, evalParts, getF, putF, afterRegion, assignV, boxOf, newBox, hasIdsP, keepF, ofVal, ofCell, plen, pesz, callV, builtinV, lenV, binV, unV, arith, shiftI, loadV, storeV, putV, indexAddrV, live, upd, pget, pset, psetA, pagg, retag, retagP, byteAV, freezeP, freezeV, joinTags, joinTag, tags, ids, scalar, cellsLen, eqV, convV, faV, fvV, shiftBy, shiftRo])
  refine condT (by simp [evalO, getF]) ?_
  apply Run.seq
  · (refine ⟨0, ?_⟩; conv => lhs; simp (maxSteps := 2000000) -implicitDefEqProofs [-getElem?_pos, List.getElem?_cons_zero, List.getElem?_cons_succ, exec, runOps, dstOk, wantedV, AM.step, evalT, evalO, evalArgs, evalParts, getF, putF, afterRegion, assignV, boxOf, newBox, hasIdsP, keepF, ofVal, ofCell, plen, pesz, callV, builtinV, lenV, binV, unV, arith, shiftI, loadV, storeV, putV, indexAddrV, live, upd, pget, pset, psetA, pagg, retag, retagP, byteAV, freezeP, freezeV, joinTags, joinTag, tags, ids, scalar, cellsLen, eqV, convV, faV, fvV, shiftBy, shiftRo, rdO, cmO, Cm.pay, hF, hF2, w4, w42])
  have hfi : ∀ x : Nat, ((1 : Int) < (x : Int)) ↔ 1 < x := fun x => by omega
  apply Run.seq (fr' := blkE ++ (if r2.2.2 = 0 ∧ 1 < r2.1 then [] else [(57, .bool false)])) (H' := [z, some (rdU c s3), some (cmO { k := k, st := r.1, fl := r2.1 } (.ro 0 .pn 0))])
  · clear hF hF2 hF4 hR
    by_cases q1 : r2.2.2 = 0
    · by_cases q2 : 1 < r2.1
      · rw [if_pos ⟨q1, q2⟩] at h3 ⊢
        subst h3
        have q2' : (1 : Int) < (r2.1 : Int) := by omega
        (refine ⟨0, ?_⟩; simp (maxSteps := 2000000) -implicitDefEqProofs [-getElem?_pos, List.getElem?_cons_zero, List.getElem?_cons_succ, exec, runOps, dstOk, wantedV, AM.step, evalT, evalO, evalArgs, evalParts, getF, putF, afterRegion, assignV, boxOf, newBox, hasIdsP, keepF, ofVal, ofCell, plen, pesz, callV, builtinV, lenV, binV, unV, arith, shiftI, loadV, storeV, putV, indexAddrV, live, upd, pget, pset, psetA, pagg, retag, retagP, byteAV, freezeP, freezeV, joinTags, joinTag, tags, ids, scalar, cellsLen, eqV, convV, faV, fvV, shiftBy, shiftRo, q1, q2, q2', blkE, rdU, cmO, Cm.pay])
      · rw [if_neg (fun h => q2 h.2)] at h3 ⊢
        subst h3
        have q2' : ¬ (1 : Int) < (r2.1 : Int) := by omega
        (refine ⟨0, ?_⟩; simp (maxSteps := 2000000) -implicitDefEqProofs [-getElem?_pos, List.getElem?_cons_zero, List.getElem?_cons_succ, exec, runOps, dstOk, wantedV, AM.step, evalT, evalO, evalArgs, evalParts, getF, putF, afterRegion, assignV, boxOf, newBox, hasIdsP, keepF, ofVal, ofCell, plen, pesz, callV, builtinV, lenV, binV, unV, arith, shiftI, loadV, storeV, putV, indexAddrV, live, upd, pget, pset, psetA, pagg, retag, retagP, byteAV, freezeP, freezeV, joinTags, joinTag, tags, ids, scalar, cellsLen, eqV, convV, faV, fvV, shiftBy, shiftRo, q1, q2, q2', blkE, rdU, cmO, Cm.pay])
    · rw [if_neg (fun h => q1 h.1)] at h3 ⊢
      subst h3
      have q1b : (r2.2.2 == 0) = false := by simpa using q1
      (refine ⟨0, ?_⟩; simp (maxSteps := 2000000) -implicitDefEqProofs [-getElem?_pos, List.getElem?_cons_zero, List.getElem?_cons_succ, exec, runOps, dstOk, wantedV, AM.step, evalT, evalO, evalArgs, evalParts, getF, putF, afterRegion, assignV, boxOf, newBox, hasIdsP, keepF, ofVal, ofCell, plen, pesz, callV, builtinV, lenV, binV, unV, arith, shiftI, loadV, storeV, putV, indexAddrV, live, upd, pget, pset, psetA, pagg, retag, retagP, byteAV, freezeP, freezeV, joinTags, joinTag, tags, ids, scalar, cellsLen, eqV, convV, faV, fvV, shiftBy, shiftRo, q1, q1b, blkE, rdU, cmO, Cm.pay])
  apply Run.seq (fr' := blkE ++ (if r4.1 ≠ 1 ∧ r4.2.2 = 0 then [] else [(70, .bool false)])) (H' := [z, some (rdU c s5), some (cmO { k := k, st := r.1, fl := r2.1 } (.ro 0 .pn 0))])
  · clear hF hF2 hR h3
    generalize (if r2.2.2 = 0 ∧ 1 < r2.1 then ([] : AM.Frame) else [(57, .bool false)]) = tl
    by_cases q1 : r4.1 = 1
    · rw [if_neg (fun h => h.1 q1)] at h5 ⊢
      subst h5
      have q1b : (((r4.1 : Nat) : Int) != 1) = false := by simp [q1]
      (refine ⟨0, ?_⟩; simp (maxSteps := 2000000) -implicitDefEqProofs [-getElem?_pos, List.getElem?_cons_zero, List.getElem?_cons_succ, exec, runOps, dstOk, wantedV, AM.step, evalT, evalO, evalArgs, evalParts, getF, putF, afterRegion, assignV, boxOf, newBox, hasIdsP, keepF, ofVal, ofCell, plen, pesz, callV, builtinV, lenV, binV, unV, arith, shiftI, loadV, storeV, putV, indexAddrV, live, upd, pget, pset, psetA, pagg, retag, retagP, byteAV, freezeP, freezeV, joinTags, joinTag, tags, ids, scalar, cellsLen, eqV, convV, faV, fvV, shiftBy, shiftRo, q1, q1b, blkE, rdU, cmO, Cm.pay, hF4])
    · have q1i : ¬ ((r4.1 : Nat) : Int) = 1 := by omega
      have q1b : (((r4.1 : Nat) : Int) != 1) = true := by simpa using q1i
      by_cases q2 : r4.2.2 = 0
      · rw [if_pos ⟨q1, q2⟩] at h5 ⊢
        subst h5
        (refine ⟨0, ?_⟩; simp (maxSteps := 2000000) -implicitDefEqProofs [-getElem?_pos, List.getElem?_cons_zero, List.getElem?_cons_succ, exec, runOps, dstOk, wantedV, AM.step, evalT, evalO, evalArgs, evalParts, getF, putF, afterRegion, assignV, boxOf, newBox, hasIdsP, keepF, ofVal, ofCell, plen, pesz, callV, builtinV, lenV, binV, unV, arith, shiftI, loadV, storeV, putV, indexAddrV, live, upd, pget, pset, psetA, pagg, retag, retagP, byteAV, freezeP, freezeV, joinTags, joinTag, tags, ids, scalar, cellsLen, eqV, convV, faV, fvV, shiftBy, shiftRo, q1, q1i, q1b, q2, blkE, rdU, cmO, Cm.pay, hF4])
      · rw [if_neg (fun h => q2 h.2)] at h5 ⊢
        subst h5
        have q2b : (r4.2.2 == 0) = false := by simpa using q2
        (refine ⟨0, ?_⟩; simp (maxSteps := 2000000) -implicitDefEqProofs [-getElem?_pos, List.getElem?_cons_zero, List.getElem?_cons_succ, exec, runOps, dstOk, wantedV, AM.step, evalT, evalO, evalArgs, evalParts, getF, putF, afterRegion, assignV, boxOf, newBox, hasIdsP, keepF, ofVal, ofCell, plen, pesz, callV, builtinV, lenV, binV, unV, arith, shiftI, loadV, storeV, putV, indexAddrV, live, upd, pget, pset, psetA, pagg, retag, retagP, byteAV, freezeP, freezeV, joinTags, joinTag, tags, ids, scalar, cellsLen, eqV, convV, faV, fvV, shiftBy, shiftRo, q1, q1i, q1b, q2, q2b, blkE, rdU, cmO, Cm.pay, hF4])
  clear hF hF2 hF4 h3 h5
  generalize (if r4.1 ≠ 1 ∧ r4.2.2 = 0 then ([] : AM.Frame) else [(70, .bool false)]) = tl
  (refine ⟨0, ?_⟩; simp (maxSteps := 2000000) -implicitDefEqProofs [-getElem?_pos, List.getElem?_cons_zero, List.getElem?_cons_succ, exec, runOps, dstOk, wantedV, AM.step, evalT, evalO, evalArgs, evalParts, getF, putF, afterRegion, assignV, boxOf, newBox, hasIdsP, keepF, ofVal, ofCell, plen, pesz, callV, builtinV, lenV, binV, unV, arith, shiftI, loadV, storeV, putV, indexAddrV, live, upd, pget, pset, psetA, pagg, retag, retagP, byteAV, freezeP, freezeV, joinTags, joinTag, tags, ids, scalar, cellsLen, eqV, convV, faV, fvV, shiftBy, shiftRo, blkE, rdU, rdN, cmO, Cm.pay, hR])

end

end Go.Proofs.YtmdciglfpedhgaaDoor
