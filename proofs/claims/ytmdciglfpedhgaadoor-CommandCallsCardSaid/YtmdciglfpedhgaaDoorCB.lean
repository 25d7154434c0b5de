/- Walks: the law CommandCalls. -/
import Derived.Test.YtmdciglfpedhgaaDoorKO
import Derived.Test.YtmdciglfpedhgaaDoorF3
import Derived.Test.YtmdciglfpedhgaaDoorCA
namespace Go.Proofs.YtmdciglfpedhgaaDoor
open Go.AM
set_option linter.unusedSimpArgs false
set_option linter.unusedVariables false

theorem appAt {H : AM.Heap} {o : Nat} {x : Option AM.Obj} (h : H[o]? = some x) (N : AM.Heap) : (H ++ N)[o]? = some x := by
  have : o < H.length := (List.getElem?_eq_some_iff.1 h).1
  rw [List.getElem?_append_left this]; exact h

section
variable (c cc : Nat) (b : List UInt8) (x : Cm)

set_option maxRecDepth 100000 in
theorem calls_code (hc : c = 0 → b = []) (hcc : cc = 0 → x.dat = []) (hx : CmOk x) : ∃ code, Tryd.f3.body = some code ∧
    Tells (Rets fun fr H => getF fr 4 = .bool true) X (evT X) 3 0 code [(0, .ro c (.pb b) 1), (1, .agg (x.pay (.ro cc (.pb x.dat) 2)))] [] := by
  refine ⟨_, rfl, ?_⟩
  have hL := fun H => lives_ev H
  apply Tells.seq (fr' := [(0, .ro c (.pb b) 1), (3, .ptr 0 0 0 0)]) (H' := [some (cmO x (.ro cc (.pb x.dat) 2))])
  · (refine ⟨0, ?_⟩; simp (maxSteps := 2000000) -implicitDefEqProofs [-getElem?_pos, List.getElem?_cons_zero, List.getElem?_cons_succ, exec, runOps, dstOk, wantedV, AM.step, evalT, evalO, evalArgs, evalParts, getF, putF, afterRegion, assignV, boxOf, newBox, hasIdsP, keepF, ofVal, ofCell, plen, pesz, callV, builtinV, lenV, binV, unV, arith, shiftI, loadV, storeV, putV, indexAddrV, live, upd, pget, pset, psetA, pagg, retag, retagP, byteAV, freezeP, freezeV, joinTags, joinTag, tags, ids, scalar, cellsLen, eqV, convV, faV, fvV, shiftBy, shiftRo, cmO, Cm.pay])
  have h3 : [some (cmO x (.ro cc (.pb x.dat) 2))][0]? = some (some (cmO x (.ro cc (.pb x.dat) 2))) := rfl
  have hX0 : ∀ H, CmA H (.agg (x.pay (.ro cc (.pb x.dat) 2))) x := fun H => CmA.ro (.inl rfl) hcc
  have hro : ∀ H, Byt H (.ro c (.pb b) 1) b := fun H => Byt.ro (.inl rfl) hc
  apply Tells.seq (fr' := [(0, .ro c (.pb b) 1), (3, .ptr 0 0 0 0), (10, .bool false)]) (H' := [some (cmO x (.ro cc (.pb x.dat) 2))])
  · (refine ⟨0, ?_⟩; simp (maxSteps := 2000000) -implicitDefEqProofs [-getElem?_pos, List.getElem?_cons_zero, List.getElem?_cons_succ, exec, runOps, dstOk, wantedV, AM.step, evalT, evalO, evalArgs, evalParts, getF, putF, afterRegion, assignV, boxOf, newBox, hasIdsP, keepF, ofVal, ofCell, plen, pesz, callV, builtinV, lenV, binV, unV, arith, shiftI, loadV, storeV, putV, indexAddrV, live, upd, pget, pset, psetA, pagg, retag, retagP, byteAV, freezeP, freezeV, joinTags, joinTag, tags, ids, scalar, cellsLen, eqV, convV, faV, fvV, shiftBy, shiftRo, hL])
  by_cases hb : (3000 : Int) < (b.length : Int)
  · refine Tells.of (o := ⟨.ret, [(4, .bool true)], [some (cmO x (.ro cc (.pb x.dat) 2))]⟩) ⟨0, ?_⟩ ⟨rfl, rfl⟩
    simp (maxSteps := 2000000) -implicitDefEqProofs [-getElem?_pos, List.getElem?_cons_zero, List.getElem?_cons_succ, exec, runOps, dstOk, wantedV, AM.step, evalT, evalO, evalArgs, evalParts, getF, putF, afterRegion, assignV, boxOf, newBox, hasIdsP, keepF, ofVal, ofCell, plen, pesz, callV, builtinV, lenV, binV, unV, arith, shiftI, loadV, storeV, putV, indexAddrV, live, upd, pget, pset, psetA, pagg, retag, retagP, byteAV, freezeP, freezeV, joinTags, joinTag, tags, ids, scalar, cellsLen, eqV, convV, faV, fvV, shiftBy, shiftRo, hb]
  have hsm := small_ev (hX0 [some (cmO x (.ro cc (.pb x.dat) 2))])
  by_cases hs : x.txt.length ≤ 3000 ∧ x.dat.length ≤ 3000
  case neg =>
    rw [decide_eq_false hs] at hsm
    simp only [cmO, Cm.pay] at hsm
    refine Tells.of (o := ⟨.ret, [(4, .bool true)], [some (cmO x (.ro cc (.pb x.dat) 2))]⟩) ⟨0, ?_⟩ ⟨rfl, rfl⟩
    simp (maxSteps := 2000000) -implicitDefEqProofs [-getElem?_pos, List.getElem?_cons_zero, List.getElem?_cons_succ, exec, runOps, dstOk, wantedV, AM.step, evalT, evalO, evalArgs, evalParts, getF, putF, afterRegion, assignV, boxOf, newBox, hasIdsP, keepF, ofVal, ofCell, plen, pesz, callV, builtinV, lenV, binV, unV, arith, shiftI, loadV, storeV, putV, indexAddrV, live, upd, pget, pset, psetA, pagg, retag, retagP, byteAV, freezeP, freezeV, joinTags, joinTag, tags, ids, scalar, cellsLen, eqV, convV, faV, fvV, shiftBy, shiftRo, hb, cmO, Cm.pay, mk26, hsm]
  rw [decide_eq_true hs] at hsm
  obtain ⟨ht, hd⟩ := hs
  have hbl : b.length ≤ 3000 := by omega
  apply Tells.seq (fr' := [(0, .ro c (.pb b) 1), (3, .ptr 0 0 0 0), (18, .bool false)]) (H' := [some (cmO x (.ro cc (.pb x.dat) 2))])
  · simp only [cmO, Cm.pay] at hsm
    (refine ⟨0, ?_⟩; simp (maxSteps := 2000000) -implicitDefEqProofs [-getElem?_pos, List.getElem?_cons_zero, List.getElem?_cons_succ, exec, runOps, dstOk, wantedV, AM.step, evalT, evalO, evalArgs, evalParts, getF, putF, afterRegion, assignV, boxOf, newBox, hasIdsP, keepF, ofVal, ofCell, plen, pesz, callV, builtinV, lenV, binV, unV, arith, shiftI, loadV, storeV, putV, indexAddrV, live, upd, pget, pset, psetA, pagg, retag, retagP, byteAV, freezeP, freezeV, joinTags, joinTag, tags, ids, scalar, cellsLen, eqV, convV, faV, fvV, shiftBy, shiftRo, hb, cmO, Cm.pay, mk26, hsm])
  clear hsm
  obtain ⟨obo, hO, hOw⟩ := own_ev (H := [some (cmO x (.ro cc (.pb x.dat) 2))]) (hro _) (by omega)
  obtain ⟨ob1, hw1, hA1⟩ := append_ev (H := [some (cmO x (.ro cc (.pb x.dat) 2)), some obo]) (a := .sl 1 0 b.length 0) hx (OwnB.byt rfl hO) (hX0 _) (by omega)
  apply Tells.seq (fr' := [(0, .ro c (.pb b) 1), (3, .ptr 0 0 0 0), (5, .sl 2 0 (appR b x).1.length 0), (6, .int .i64 (appR b x).2)]) (H' := [some (cmO x (.ro cc (.pb x.dat) 2)), some obo, some ob1])
  · have hg := hO.rw.g
    have hpp := hO.rw.p
    have hids := hO.rw.ids
    have hg1 := hw1.g
    have hpp1 := hw1.p
    have hids1 := hw1.ids
    simp only [cmO, Cm.pay, List.cons_append, List.nil_append, List.length_cons, List.length_nil] at hOw hA1
    generalize appR b x = r at *
    apply Run.dy (by simp) keep3_5 (by simp)
    · (conv => lhs; simp (maxSteps := 2000000) -implicitDefEqProofs [-getElem?_pos, List.getElem?_cons_zero, List.getElem?_cons_succ, exec, runOps, dstOk, wantedV, AM.step, evalT, evalO, evalArgs, evalParts, getF, putF, afterRegion, assignV, boxOf, newBox, hasIdsP, keepF, ofVal, ofCell, plen, pesz, callV, builtinV, lenV, binV, unV, arith, shiftI, loadV, storeV, putV, indexAddrV, live, upd, pget, pset, psetA, pagg, retag, retagP, byteAV, freezeP, freezeV, joinTags, joinTag, tags, ids, scalar, cellsLen, eqV, convV, faV, fvV, shiftBy, shiftRo, runD, out1, markOf, freeO, quietO, pushes, isAssign, calledV, touched, mentioned, opVals, touchCall, mentionCall, idsAt, Op.operands, ids, idsL, lendArgs, lendV, lend1, lendL, cmO, Cm.pay, mk26, hOw, hA1, assignV, reach_none, hg, hpp, hids, hg1, hpp1, hids1, psub])
      rfl
    · kernel_rfl
    · rfl
  have h3' : [some (cmO x (.ro cc (.pb x.dat) 2)), some obo, some ob1][0]? = some (some (cmO x (.ro cc (.pb x.dat) 2))) := rfl
  obtain ⟨ob2, hw2, hA2⟩ := rappend_ev (H := [some (cmO x (.ro cc (.pb x.dat) 2)), some obo, some ob1]) (a := .ro c (.pb b) 1) hx (hro _) (hX0 _) (by omega)
  apply Tells.seq (fr' := [(3, .ptr 0 0 0 0), (5, .sl 2 0 (appR b x).1.length 0), (6, .int .i64 (appR b x).2), (7, .sl 3 0 (appR b x).1.length 0), (8, .int .i64 (appR b x).2)]) (H' := [some (cmO x (.ro cc (.pb x.dat) 2)), some obo, some ob1, some ob2])
  · simp only [cmO, Cm.pay, List.cons_append, List.nil_append, List.length_cons, List.length_nil] at hA2
    generalize appR b x = r at *
    (refine ⟨0, ?_⟩; simp (maxSteps := 2000000) -implicitDefEqProofs [-getElem?_pos, List.getElem?_cons_zero, List.getElem?_cons_succ, exec, runOps, dstOk, wantedV, AM.step, evalT, evalO, evalArgs, evalParts, getF, putF, afterRegion, assignV, boxOf, newBox, hasIdsP, keepF, ofVal, ofCell, plen, pesz, callV, builtinV, lenV, binV, unV, arith, shiftI, loadV, storeV, putV, indexAddrV, live, upd, pget, pset, psetA, pagg, retag, retagP, byteAV, freezeP, freezeV, joinTags, joinTag, tags, ids, scalar, cellsLen, eqV, convV, faV, fvV, shiftBy, shiftRo, cmO, Cm.pay, mk26, hA2, assignV])
  have hSB := sameB_ev (H := [some (cmO x (.ro cc (.pb x.dat) 2)), some obo, some ob1, some ob2]) (Byt.whole (o := 2) rfl hw1) (Byt.whole (o := 3) rfl hw2)
  rw [beq_self_eq_true] at hSB
  have hC := check_ev (H := [some (cmO x (.ro cc (.pb x.dat) 2)), some obo, some ob1, some ob2]) hx.k (hX0 _)
  have hC2 := rcheck_ev (H := [some (cmO x (.ro cc (.pb x.dat) 2)), some obo, some ob1, some ob2]) hx.k (hX0 _)
  have hN := fun H => cname_ev hx.k H
  have hN2 := fun H => rname_ev hx.k H
  have hW := fun H => answer_ev hx.k H
  have hW2 := fun H => ranswer_ev hx.k H
  have hB := fun H => about_ev hx.k H
  have hB2 := fun H => rabout_ev hx.k H
  refine Tells.seq (fr' := [(4, .bool true)]) (H' := [some (cmO x (.ro cc (.pb x.dat) 2)), some obo, some ob1, some ob2]) ?_ (Tells.of (o := ⟨.ret, [(4, .bool true)], [some (cmO x (.ro cc (.pb x.dat) 2)), some obo, some ob1, some ob2]⟩) ⟨0, rfl⟩ ⟨rfl, rfl⟩)
  have hg1 := hw1.g
  have hpp1 := hw1.p
  have hids1 := hw1.ids
  have hg2 := hw2.g
  have hpp2 := hw2.p
  have hids2 := hw2.ids
  simp only [cmO, Cm.pay] at hSB hC hC2
  clear hA1 hA2 hOw
  generalize appR b x = r at *
  generalize chkR x = ck at *
  generalize nmS x.k = nk at *
  generalize ans x.k = ak at *
  generalize abt x.k = bk at *
  apply Run.dy (by simp) keep3_7 (by simp)
  · (conv => lhs; simp (maxSteps := 2000000) -implicitDefEqProofs [-getElem?_pos, List.getElem?_cons_zero, List.getElem?_cons_succ, exec, runOps, dstOk, wantedV, AM.step, evalT, evalO, evalArgs, evalParts, getF, putF, afterRegion, assignV, boxOf, newBox, hasIdsP, keepF, ofVal, ofCell, plen, pesz, callV, builtinV, lenV, binV, unV, arith, shiftI, loadV, storeV, putV, indexAddrV, live, upd, pget, pset, psetA, pagg, retag, retagP, byteAV, freezeP, freezeV, joinTags, joinTag, tags, ids, scalar, cellsLen, eqV, convV, faV, fvV, shiftBy, shiftRo, runD, out1, markOf, freeO, quietO, pushes, isAssign, calledV, touched, mentioned, opVals, touchCall, mentionCall, idsAt, Op.operands, ids, idsL, lendArgs, lendV, lend1, lendL, cmO, Cm.pay, mk26, hSB, hC, hC2, hN, hN2, hW, hW2, hB, hB2, strOp, reach_none, hg1, hpp1, hids1, hg2, hpp2, hids2, psub])
    rfl
  · kernel_rfl
  · rfl

end

end Go.Proofs.YtmdciglfpedhgaaDoor
