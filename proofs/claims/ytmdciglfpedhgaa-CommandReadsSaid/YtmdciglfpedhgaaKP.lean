/- Walks: the law CommandReads. -/
import Derived.Test.YtmdciglfpedhgaaKO
import Derived.Test.YtmdciglfpedhgaaF3
namespace Go.Proofs.Ytmdciglfpedhgaa
open Go.AM
set_option linter.unusedSimpArgs false
set_option linter.unusedVariables false

section
variable (c : Nat) (b : List UInt8) (id : Nat)

set_option maxRecDepth 100000 in
theorem reads_code (hc : c = 0 → b = []) (hid : id < 4294967296) : ∃ code, Try.f4.body = some code ∧
    Tells (Rets fun fr H => getF fr 4 = .bool true) X (evT X) 4 0 code [(0, .ro c (.pb b) 1), (1, .int .u32 (id : Nat))] [] := by
  refine ⟨_, rfl, ?_⟩
  have hL := fun H => lives_ev H
  apply Tells.seq
  · (refine ⟨0, ?_⟩; conv => lhs; simp (maxSteps := 2000000) -implicitDefEqProofs [-getElem?_pos, List.getElem?_cons_zero, List.getElem?_cons_succ, exec, runOps, dstOk, wantedV, AM.step, evalT, evalO, evalArgs, evalParts, getF, putF, afterRegion, assignV, boxOf, newBox, hasIdsP, keepF, ofVal, ofCell, plen, pesz, callV, builtinV, lenV, binV, unV, arith, shiftI, loadV, storeV, putV, indexAddrV, live, upd, pget, pset, psetA, pagg, retag, retagP, byteAV, freezeP, freezeV, joinTags, joinTag, tags, ids, scalar, cellsLen, eqV, convV, faV, fvV, shiftBy, shiftRo])
  apply Tells.seq
  · (refine ⟨0, ?_⟩; conv => lhs; simp (maxSteps := 2000000) -implicitDefEqProofs [-getElem?_pos, List.getElem?_cons_zero, List.getElem?_cons_succ, exec, runOps, dstOk, wantedV, AM.step, evalT, evalO, evalArgs, evalParts, getF, putF, afterRegion, assignV, boxOf, newBox, hasIdsP, keepF, ofVal, ofCell, plen, pesz, callV, builtinV, lenV, binV, unV, arith, shiftI, loadV, storeV, putV, indexAddrV, live, upd, pget, pset, psetA, pagg, retag, retagP, byteAV, freezeP, freezeV, joinTags, joinTag, tags, ids, scalar, cellsLen, eqV, convV, faV, fvV, shiftBy, shiftRo, hL])
  by_cases hb : (3000 : Int) < (b.length : Int)
  · refine Tells.of (o := ⟨.ret, [(4, .bool true)], []⟩) ⟨0, ?_⟩ ⟨rfl, rfl⟩
    simp (maxSteps := 2000000) -implicitDefEqProofs [-getElem?_pos, List.getElem?_cons_zero, List.getElem?_cons_succ, exec, runOps, dstOk, wantedV, AM.step, evalT, evalO, evalArgs, evalParts, getF, putF, afterRegion, assignV, boxOf, newBox, hasIdsP, keepF, ofVal, ofCell, plen, pesz, callV, builtinV, lenV, binV, unV, arith, shiftI, loadV, storeV, putV, indexAddrV, live, upd, pget, pset, psetA, pagg, retag, retagP, byteAV, freezeP, freezeV, joinTags, joinTag, tags, ids, scalar, cellsLen, eqV, convV, faV, fvV, shiftBy, shiftRo, hb]
  apply Tells.seq
  · (refine ⟨0, ?_⟩; conv => lhs; simp (maxSteps := 2000000) -implicitDefEqProofs [-getElem?_pos, List.getElem?_cons_zero, List.getElem?_cons_succ, exec, runOps, dstOk, wantedV, AM.step, evalT, evalO, evalArgs, evalParts, getF, putF, afterRegion, assignV, boxOf, newBox, hasIdsP, keepF, ofVal, ofCell, plen, pesz, callV, builtinV, lenV, binV, unV, arith, shiftI, loadV, storeV, putV, indexAddrV, live, upd, pget, pset, psetA, pagg, retag, retagP, byteAV, freezeP, freezeV, joinTags, joinTag, tags, ids, scalar, cellsLen, eqV, convV, faV, fvV, shiftBy, shiftRo, hb])
  have hbl : b.length ≤ 3000 := by omega
  obtain ⟨obo, hO, hOw⟩ := own_ev (H := []) (a := .ro c (.pb b) 1) (b := b) (Byt.ro (.inl rfl) hc) (by omega)
  rw [List.nil_append] at hOw
  simp only [List.length_nil] at hOw
  apply Tells.seq (fr' := [(0, .ro c (.pb b) 1), (1, .int .u32 (id : Nat)), (5, .sl 0 0 b.length 0)]) (H' := [some obo])
  · (refine ⟨0, ?_⟩; simp (maxSteps := 2000000) -implicitDefEqProofs [-getElem?_pos, List.getElem?_cons_zero, List.getElem?_cons_succ, exec, runOps, dstOk, wantedV, AM.step, evalT, evalO, evalArgs, evalParts, getF, putF, afterRegion, assignV, boxOf, newBox, hasIdsP, keepF, ofVal, ofCell, plen, pesz, callV, builtinV, lenV, binV, unV, arith, shiftI, loadV, storeV, putV, indexAddrV, live, upd, pget, pset, psetA, pagg, retag, retagP, byteAV, freezeP, freezeV, joinTags, joinTag, tags, ids, scalar, cellsLen, eqV, convV, faV, fvV, shiftBy, shiftRo, hOw, assignV])
  have h5 : [some obo][0]? = some (some obo) := rfl
  generalize [some obo] = H1 at h5 ⊢
  have hro : ∀ H, Byt H (.ro c (.pb b) 1) b := fun H => Byt.ro (.inl rfl) hc
  obtain ⟨d, N, hR, hd⟩ := read_ev (H := H1) (a := .sl 0 0 b.length 0) (b := b) (OwnB.byt h5 hO) (by omega)
  have hok := (readR_ok b).1
  have hsd := hd.scalar
  apply Tells.seq (fr' := [(0, .ro c (.pb b) 1), (1, .int .u32 (id : Nat)), (5, .sl 0 0 b.length 0), (6, .ptr (H1 ++ N).length 0 0 0), (7, .int .i64 (readR b).2)]) (H' := H1 ++ N ++ [some (cmO (readR b).1 d)])
  · generalize H1 ++ N = H4 at *
    (refine ⟨0, ?_⟩; simp (maxSteps := 2000000) -implicitDefEqProofs [-getElem?_pos, List.getElem?_cons_zero, List.getElem?_cons_succ, exec, runOps, dstOk, wantedV, AM.step, evalT, evalO, evalArgs, evalParts, getF, putF, afterRegion, assignV, boxOf, newBox, hasIdsP, keepF, ofVal, ofCell, plen, pesz, callV, builtinV, lenV, binV, unV, arith, shiftI, loadV, storeV, putV, indexAddrV, live, upd, pget, pset, psetA, pagg, retag, retagP, byteAV, freezeP, freezeV, joinTags, joinTag, tags, ids, scalar, cellsLen, eqV, convV, faV, fvV, shiftBy, shiftRo, hR, -storeV, st26 hsd])
  have h6 : (H1 ++ N ++ [some (cmO (readR b).1 d)])[(H1 ++ N).length]? = some (some (cmO (readR b).1 d)) := cat_at (H1 ++ N) _
  have h52 := app_at (app_at h5 N) [some (cmO (readR b).1 d)]
  have hd6 := hd.app [some (cmO (readR b).1 d)]
  clear hR hd h5
  generalize H1 ++ N ++ [some (cmO (readR b).1 d)] = H2 at *
  generalize (H1 ++ N).length = o6 at *
  obtain ⟨d2, N2, hR2, hd2⟩ := rread_ev (H := H2) (a := .ro c (.pb b) 1) (b := b) (hro _) (by omega)
  have hsd2 := hd2.scalar
  apply Tells.seq (fr' := [(0, .ro c (.pb b) 1), (1, .int .u32 (id : Nat)), (5, .sl 0 0 b.length 0), (6, .ptr o6 0 0 0), (7, .int .i64 (readR b).2), (8, .ptr (H2 ++ N2).length 0 0 0), (9, .int .i64 (readR b).2)]) (H' := H2 ++ N2 ++ [some (cmO (readR b).1 d2)])
  · generalize H2 ++ N2 = H4 at *
    (refine ⟨0, ?_⟩; simp (maxSteps := 2000000) -implicitDefEqProofs [-getElem?_pos, List.getElem?_cons_zero, List.getElem?_cons_succ, exec, runOps, dstOk, wantedV, AM.step, evalT, evalO, evalArgs, evalParts, getF, putF, afterRegion, assignV, boxOf, newBox, hasIdsP, keepF, ofVal, ofCell, plen, pesz, callV, builtinV, lenV, binV, unV, arith, shiftI, loadV, storeV, putV, indexAddrV, live, upd, pget, pset, psetA, pagg, retag, retagP, byteAV, freezeP, freezeV, joinTags, joinTag, tags, ids, scalar, cellsLen, eqV, convV, faV, fvV, shiftBy, shiftRo, hR2, -storeV, st26 hsd2])
  have h8 : (H2 ++ N2 ++ [some (cmO (readR b).1 d2)])[(H2 ++ N2).length]? = some (some (cmO (readR b).1 d2)) := cat_at (H2 ++ N2) _
  have h53 := app_at (app_at h52 N2) [some (cmO (readR b).1 d2)]
  have h62 := app_at (app_at h6 N2) [some (cmO (readR b).1 d2)]
  have hd8 := hd2.app [some (cmO (readR b).1 d2)]
  have hd62 := (hd6.app N2).app [some (cmO (readR b).1 d2)]
  clear hR2 hd2 h52 h6 hd6
  generalize H2 ++ N2 ++ [some (cmO (readR b).1 d2)] = H3 at *
  generalize (H2 ++ N2).length = o8 at *
  obtain ⟨ob3, hw3, hW3⟩ := ws_ev (H := H3) (a := .sl 0 0 b.length 0) (b := b) (id := id) (OwnB.byt h53 hO) (by omega) hid
  apply Tells.seq (fr' := [(0, .ro c (.pb b) 1), (1, .int .u32 (id : Nat)), (5, .sl 0 0 b.length 0), (6, .ptr o6 0 0 0), (7, .int .i64 (readR b).2), (8, .ptr o8 0 0 0), (9, .int .i64 (readR b).2), (10, .sl H3.length 0 (wsR b id).1.length 0), (11, .int .i64 (wsR b id).2)]) (H' := H3 ++ [some ob3])
  · (refine ⟨0, ?_⟩; simp (maxSteps := 2000000) -implicitDefEqProofs [-getElem?_pos, List.getElem?_cons_zero, List.getElem?_cons_succ, exec, runOps, dstOk, wantedV, AM.step, evalT, evalO, evalArgs, evalParts, getF, putF, afterRegion, assignV, boxOf, newBox, hasIdsP, keepF, ofVal, ofCell, plen, pesz, callV, builtinV, lenV, binV, unV, arith, shiftI, loadV, storeV, putV, indexAddrV, live, upd, pget, pset, psetA, pagg, retag, retagP, byteAV, freezeP, freezeV, joinTags, joinTag, tags, ids, scalar, cellsLen, eqV, convV, faV, fvV, shiftBy, shiftRo, hW3, assignV])
  have h10 : (H3 ++ [some ob3])[H3.length]? = some (some ob3) := cat_at H3 _
  have h54 := app_at h53 [some ob3]
  have h63 := app_at h62 [some ob3]
  have h82 := app_at h8 [some ob3]
  have hd63 := hd62.app [some ob3]
  have hd82 := hd8.app [some ob3]
  clear hW3 h53 h62 h8 hd62 hd8
  generalize H3 ++ [some ob3] = H4 at *
  generalize H3.length = o10 at *
  obtain ⟨ob4, hw4, hW4⟩ := rws_ev (H := H4) (a := .ro c (.pb b) 1) (b := b) (id := id) (hro _) (by omega) hid
  apply Tells.seq (fr' := [(0, .ro c (.pb b) 1), (5, .sl 0 0 b.length 0), (6, .ptr o6 0 0 0), (7, .int .i64 (readR b).2), (8, .ptr o8 0 0 0), (9, .int .i64 (readR b).2), (10, .sl o10 0 (wsR b id).1.length 0), (11, .int .i64 (wsR b id).2), (12, .sl H4.length 0 (wsR b id).1.length 0), (13, .int .i64 (wsR b id).2)]) (H' := H4 ++ [some ob4])
  · (refine ⟨0, ?_⟩; simp (maxSteps := 2000000) -implicitDefEqProofs [-getElem?_pos, List.getElem?_cons_zero, List.getElem?_cons_succ, exec, runOps, dstOk, wantedV, AM.step, evalT, evalO, evalArgs, evalParts, getF, putF, afterRegion, assignV, boxOf, newBox, hasIdsP, keepF, ofVal, ofCell, plen, pesz, callV, builtinV, lenV, binV, unV, arith, shiftI, loadV, storeV, putV, indexAddrV, live, upd, pget, pset, psetA, pagg, retag, retagP, byteAV, freezeP, freezeV, joinTags, joinTag, tags, ids, scalar, cellsLen, eqV, convV, faV, fvV, shiftBy, shiftRo, hW4, assignV])
  have h12 : (H4 ++ [some ob4])[H4.length]? = some (some ob4) := cat_at H4 _
  have h55 := app_at h54 [some ob4]
  have h64 := app_at h63 [some ob4]
  have h83 := app_at h82 [some ob4]
  have h102 := app_at h10 [some ob4]
  have hd64 := hd63.app [some ob4]
  have hd83 := hd82.app [some ob4]
  clear hW4 h54 h63 h82 h10 hd63 hd82
  generalize H4 ++ [some ob4] = H5 at *
  generalize H4.length = o12 at *
  have hSC := sameC_ev (CmA.of (x := (readR b).1) hd64.byt) (CmA.of (x := (readR b).1) hd83.byt)
  rw [(sameC_iff (readR b).1 (readR b).1).2 rfl] at hSC
  have hSB := sameB_ev (Byt.whole h102 hw3) (Byt.whole h12 hw4)
  rw [beq_self_eq_true] at hSB
  have hK := kept_ev (c := c) (t := 1) h55 hO hc (by omega)
  generalize readR b = r at *
  generalize wsR b id = w at *
  refine Tells.of (o := ⟨.ret, [(4, .bool true)], H5⟩) ⟨0, ?_⟩ ⟨rfl, rfl⟩
  have hl6 := load26 h64
  have hl8 := load26 h83
  simp (maxSteps := 2000000) -implicitDefEqProofs [-getElem?_pos, List.getElem?_cons_zero, List.getElem?_cons_succ, exec, runOps, dstOk, wantedV, AM.step, evalT, evalO, evalArgs, evalParts, getF, putF, afterRegion, assignV, boxOf, newBox, hasIdsP, keepF, ofVal, ofCell, plen, pesz, callV, builtinV, lenV, binV, unV, arith, shiftI, loadV, storeV, putV, indexAddrV, live, upd, pget, pset, psetA, pagg, retag, retagP, byteAV, freezeP, freezeV, joinTags, joinTag, tags, ids, scalar, cellsLen, eqV, convV, faV, fvV, shiftBy, shiftRo, -loadV, hl6, hl8, hSC, hSB, hK]

end

end Go.Proofs.Ytmdciglfpedhgaa
