/- Walks: Read. -/
import Derived.Test.YtmdciglfpedhgaaDoorK3
namespace Go.Proofs.YtmdciglfpedhgaaDoor
open Go.AM
set_option linter.unusedSimpArgs false
set_option linter.unusedVariables false

theorem blk_all {c : Nat} {s : St} (k : Nat) (hc : c = 0 → s.1 = []) (hb : s.1.length ≤ 1000000) (z : Option AM.Obj) : ∃ code, blkO = some code ∧
    Tells (Goes (blkP z (bodyR k s))) X (evT X) 19 0 code (blkFr ((shp k : Nat) : Int)) [z, some (rdO c 1 1 s), some (cmO { k := k } (.ro 0 .pn 0))] := by
  have h9 := shp_lt k
  unfold bodyR
  generalize shp k = j at *
  match j, h9 with
  | 0, _ => exact blk0 hc z
  | 1, _ => exact blk1 hc hb z
  | 2, _ => exact blk2 hc hb z
  | 3, _ => exact blk3 hc hb z _ _ rfl rfl
  | 4, _ => exact blk4 hc hb z
  | 5, _ => exact blk5 hc hb z
  | 6, _ => exact blk6 hc hb z
  | 7, _ => exact blk7 hc hb z
  | 8, _ => exact blk8 hc hb z

section
variable (c : Nat) (b : List UInt8)

def readP (r : Cm × Int) (fr : AM.Frame) (H : AM.Heap) : Prop :=
  ∃ d, getF fr 2 = .ptr 0 0 0 0 ∧ getF fr 3 = .int .i64 r.2 ∧ H[0]? = some (some (cmO r.1 d)) ∧ datIs H d r.1.dat

/-- what stands behind Read's choice -/
noncomputable def endO : Option Code := (((((Tryd.f19.body).bind cR).bind cR).bind cR).bind cR).bind cR

set_option maxRecDepth 100000 in
theorem read_end (r : Cm × St) (d : AV) (ext : AM.Heap) (tl : AM.Frame) {bx : AM.Obj} (hbx : boxIs bx r.2) (hd : datIs3 (some (cmO { k := 0 } (.ro 0 .pn 0)) :: some bx :: some (cmO r.1 d) :: ext) d r.1.dat) (code : Code) (hcode : endO = some code) :
    Tells (Rets (readP (if r.2.2 ≠ 0 then ({ k := 0 }, r.2.2) else if r.2.1 ≠ [] then ({ k := 0 }, 5) else (r.1, 0)))) X (evT X) 19 0 code
      ((2, .ptr 0 0 0 0) :: (4, .ptr 1 0 0 0) :: (5, .ptr 2 0 0 0) :: tl) (some (cmO { k := 0 } (.ro 0 .pn 0)) :: some bx :: some (cmO r.1 d) :: ext) := by
  obtain ⟨x, b, e⟩ := r
  simp only at hbx hd ⊢
  have gen : ∃ code', endO = some code' ∧ Tells (Rets (readP (if e ≠ 0 then ({ k := 0 }, e) else if b ≠ [] then ({ k := 0 }, 5) else (x, 0)))) X (evT X) 19 0 code'
      ((2, .ptr 0 0 0 0) :: (4, .ptr 1 0 0 0) :: (5, .ptr 2 0 0 0) :: tl) (some (cmO { k := 0 } (.ro 0 .pn 0)) :: some bx :: some (cmO x d) :: ext) := by
    refine ⟨_, rfl, ?_⟩
    by_cases he : e = 0
    · subst he
      rw [if_neg (by simp)]
      by_cases hb : b = []
      · rw [if_neg (by simpa using hb)]
        subst hb
        have hd2 := hd
        rcases hd2 with ⟨rfl, _⟩ | ⟨o, ob, rfl, _⟩
        · 
          rcases hbx with ⟨c, hc, rfl⟩ | ⟨_, rfl⟩
          · refine Tells.of (o := ⟨.ret, [(2, .ptr 0 0 0 0), (3, .int .i64 0)], some (cmO x (.ro 0 .pn 0)) :: some (rdO c 1 1 ([], 0)) :: some (cmO x (.ro 0 .pn 0)) :: ext⟩) ⟨0, ?_⟩ ⟨rfl, (.ro 0 .pn 0), rfl, rfl, rfl, hd.to⟩
            simp (maxSteps := 2000000) -implicitDefEqProofs [-getElem?_pos, List.getElem?_cons_zero, List.getElem?_cons_succ, exec, runOps, dstOk, wantedV, AM.step, evalT, evalO, evalArgs, evalParts, getF, putF, afterRegion, assignV, boxOf, newBox, hasIdsP, keepF, ofVal, ofCell, plen, pesz, callV, builtinV, lenV, binV, unV, arith, shiftI, loadV, storeV, putV, indexAddrV, live, upd, pget, pset, psetA, pagg, retag, retagP, byteAV, freezeP, freezeV, joinTags, joinTag, tags, ids, scalar, cellsLen, eqV, convV, faV, fvV, shiftBy, shiftRo, cmO, Cm.pay, rdO, flatCells, splice, scalars, scalar, mk26]
          · refine Tells.of (o := ⟨.ret, [(2, .ptr 0 0 0 0), (3, .int .i64 0)], some (cmO x (.ro 0 .pn 0)) :: some (rdN 1 0) :: some (cmO x (.ro 0 .pn 0)) :: ext⟩) ⟨0, ?_⟩ ⟨rfl, (.ro 0 .pn 0), rfl, rfl, rfl, hd.to⟩
            simp (maxSteps := 2000000) -implicitDefEqProofs [-getElem?_pos, List.getElem?_cons_zero, List.getElem?_cons_succ, exec, runOps, dstOk, wantedV, AM.step, evalT, evalO, evalArgs, evalParts, getF, putF, afterRegion, assignV, boxOf, newBox, hasIdsP, keepF, ofVal, ofCell, plen, pesz, callV, builtinV, lenV, binV, unV, arith, shiftI, loadV, storeV, putV, indexAddrV, live, upd, pget, pset, psetA, pagg, retag, retagP, byteAV, freezeP, freezeV, joinTags, joinTag, tags, ids, scalar, cellsLen, eqV, convV, faV, fvV, shiftBy, shiftRo, cmO, Cm.pay, rdN, flatCells, splice, scalars, scalar, mk26]
        · 
          rcases hbx with ⟨c, hc, rfl⟩ | ⟨_, rfl⟩
          · refine Tells.of (o := ⟨.ret, [(2, .ptr 0 0 0 0), (3, .int .i64 0)], some (cmO x (.sl o 0 x.dat.length 0)) :: some (rdO c 1 1 ([], 0)) :: some (cmO x (.sl o 0 x.dat.length 0)) :: ext⟩) ⟨0, ?_⟩ ⟨rfl, (.sl o 0 x.dat.length 0), rfl, rfl, rfl, hd.to⟩
            simp (maxSteps := 2000000) -implicitDefEqProofs [-getElem?_pos, List.getElem?_cons_zero, List.getElem?_cons_succ, exec, runOps, dstOk, wantedV, AM.step, evalT, evalO, evalArgs, evalParts, getF, putF, afterRegion, assignV, boxOf, newBox, hasIdsP, keepF, ofVal, ofCell, plen, pesz, callV, builtinV, lenV, binV, unV, arith, shiftI, loadV, storeV, putV, indexAddrV, live, upd, pget, pset, psetA, pagg, retag, retagP, byteAV, freezeP, freezeV, joinTags, joinTag, tags, ids, scalar, cellsLen, eqV, convV, faV, fvV, shiftBy, shiftRo, cmO, Cm.pay, rdO, flatCells, splice, scalars, scalar, mk26]
          · refine Tells.of (o := ⟨.ret, [(2, .ptr 0 0 0 0), (3, .int .i64 0)], some (cmO x (.sl o 0 x.dat.length 0)) :: some (rdN 1 0) :: some (cmO x (.sl o 0 x.dat.length 0)) :: ext⟩) ⟨0, ?_⟩ ⟨rfl, (.sl o 0 x.dat.length 0), rfl, rfl, rfl, hd.to⟩
            simp (maxSteps := 2000000) -implicitDefEqProofs [-getElem?_pos, List.getElem?_cons_zero, List.getElem?_cons_succ, exec, runOps, dstOk, wantedV, AM.step, evalT, evalO, evalArgs, evalParts, getF, putF, afterRegion, assignV, boxOf, newBox, hasIdsP, keepF, ofVal, ofCell, plen, pesz, callV, builtinV, lenV, binV, unV, arith, shiftI, loadV, storeV, putV, indexAddrV, live, upd, pget, pset, psetA, pagg, retag, retagP, byteAV, freezeP, freezeV, joinTags, joinTag, tags, ids, scalar, cellsLen, eqV, convV, faV, fvV, shiftBy, shiftRo, cmO, Cm.pay, rdN, flatCells, splice, scalars, scalar, mk26]
      · rw [if_pos (by simpa using hb)]
        obtain ⟨c, rfl⟩ : ∃ c, bx = rdO c 1 1 (b, 0) := by
          rcases hbx with ⟨c, hc, rfl⟩ | ⟨h, _⟩
          · exact ⟨c, rfl⟩
          · exact absurd h hb
        have hlt : (0 : Int) < (b.length : Int) := by have := List.length_pos_iff.2 hb; omega
        refine Tells.of (o := ⟨.ret, [(2, .ptr 0 0 0 0), (3, .int .i64 5)], some (cmO { k := 0 } (.ro 0 .pn 0)) :: some (rdO c 1 1 (b, 5)) :: some (cmO x d) :: ext⟩) ?_ ⟨rfl, .ro 0 .pn 0, rfl, rfl, rfl, .inl ⟨rfl, rfl⟩⟩
        apply Run.seq
        · have hltn := List.length_pos_iff.2 hb
          (refine ⟨0, ?_⟩; conv => lhs; simp (maxSteps := 2000000) -implicitDefEqProofs [-getElem?_pos, List.getElem?_cons_zero, List.getElem?_cons_succ, exec, runOps, dstOk, wantedV, AM.step, evalT, evalO, evalArgs, evalParts, getF, putF, afterRegion, assignV, boxOf, newBox, hasIdsP, keepF, ofVal, ofCell, plen, pesz, callV, builtinV, lenV, binV, unV, arith, shiftI, loadV, storeV, putV, indexAddrV, live, upd, pget, pset, psetA, pagg, retag, retagP, byteAV, freezeP, freezeV, joinTags, joinTag, tags, ids, scalar, cellsLen, eqV, convV, faV, fvV, shiftBy, shiftRo, rdO, hlt, hltn])
        apply Run.seq_out (hne := by simp)
        apply Run.seq
        · (refine ⟨0, ?_⟩; conv => lhs; simp (maxSteps := 2000000) -implicitDefEqProofs [-getElem?_pos, List.getElem?_cons_zero, List.getElem?_cons_succ, exec, runOps, dstOk, wantedV, AM.step, evalT, evalO, evalArgs, evalParts, getF, putF, afterRegion, assignV, boxOf, newBox, hasIdsP, keepF, ofVal, ofCell, plen, pesz, callV, builtinV, lenV, binV, unV, arith, shiftI, loadV, storeV, putV, indexAddrV, live, upd, pget, pset, psetA, pagg, retag, retagP, byteAV, freezeP, freezeV, joinTags, joinTag, tags, ids, scalar, cellsLen, eqV, convV, faV, fvV, shiftBy, shiftRo])
        refine condT (by simp [evalO, getF]) ?_
        apply Run.seq
        · apply Run.dy (by simp) keep19_30 (by simp)
          · (conv => lhs; simp (maxSteps := 2000000) -implicitDefEqProofs [-getElem?_pos, List.getElem?_cons_zero, List.getElem?_cons_succ, exec, runOps, dstOk, wantedV, AM.step, evalT, evalO, evalArgs, evalParts, getF, putF, afterRegion, assignV, boxOf, newBox, hasIdsP, keepF, ofVal, ofCell, plen, pesz, callV, builtinV, lenV, binV, unV, arith, shiftI, loadV, storeV, putV, indexAddrV, live, upd, pget, pset, psetA, pagg, retag, retagP, byteAV, freezeP, freezeV, joinTags, joinTag, tags, ids, scalar, cellsLen, eqV, convV, faV, fvV, shiftBy, shiftRo, runD, out1, markOf, freeO, quietO, pushes, isAssign, calledV, touched, mentioned, opVals, touchCall, mentionCall, idsAt, Op.operands, ids, idsL, lendArgs, lendV, lend1, lendL, rdO, cmO, Cm.pay, bd26n, flatCells, splice, scalars, scalar])
          · kernel_rfl
          · rfl
        · refine ⟨0, ?_⟩
          simp (maxSteps := 2000000) -implicitDefEqProofs [-getElem?_pos, List.getElem?_cons_zero, List.getElem?_cons_succ, exec, runOps, dstOk, wantedV, AM.step, evalT, evalO, evalArgs, evalParts, getF, putF, afterRegion, assignV, boxOf, newBox, hasIdsP, keepF, ofVal, ofCell, plen, pesz, callV, builtinV, lenV, binV, unV, arith, shiftI, loadV, storeV, putV, indexAddrV, live, upd, pget, pset, psetA, pagg, retag, retagP, byteAV, freezeP, freezeV, joinTags, joinTag, tags, ids, scalar, cellsLen, eqV, convV, faV, fvV, shiftBy, shiftRo, keepF, getF, rdO, cmO, Cm.pay]
    · rw [if_pos (by simpa using he)]
      have heb : (e == 0) = false := by simpa using he
      have heb2 : (e != 0) = true := by simpa using he
      obtain ⟨bs, rfl⟩ : ∃ bs, bx = ⟨.pc [bs, .int .i64 e], 0, some 2, 1, false, true, 1⟩ := by
        rcases hbx with ⟨c, hc, rfl⟩ | ⟨_, rfl⟩
        · exact ⟨_, rfl⟩
        · exact ⟨_, rfl⟩
      refine Tells.of (o := ⟨.ret, [(2, .ptr 0 0 0 0), (3, .int .i64 e)], some (cmO { k := 0 } (.ro 0 .pn 0)) :: some ⟨.pc [bs, .int .i64 e], 0, some 2, 1, false, true, 1⟩ :: some (cmO x d) :: ext⟩) ?_ ⟨rfl, .ro 0 .pn 0, rfl, rfl, rfl, .inl ⟨rfl, rfl⟩⟩
      apply Run.seq
      · (refine ⟨0, ?_⟩; conv => lhs; simp (maxSteps := 2000000) -implicitDefEqProofs [-getElem?_pos, List.getElem?_cons_zero, List.getElem?_cons_succ, exec, runOps, dstOk, wantedV, AM.step, evalT, evalO, evalArgs, evalParts, getF, putF, afterRegion, assignV, boxOf, newBox, hasIdsP, keepF, ofVal, ofCell, plen, pesz, callV, builtinV, lenV, binV, unV, arith, shiftI, loadV, storeV, putV, indexAddrV, live, upd, pget, pset, psetA, pagg, retag, retagP, byteAV, freezeP, freezeV, joinTags, joinTag, tags, ids, scalar, cellsLen, eqV, convV, faV, fvV, shiftBy, shiftRo, he, heb])
      apply Run.seq_out (hne := by simp)
      apply Run.seq
      · (refine ⟨0, ?_⟩; conv => lhs; simp (maxSteps := 2000000) -implicitDefEqProofs [-getElem?_pos, List.getElem?_cons_zero, List.getElem?_cons_succ, exec, runOps, dstOk, wantedV, AM.step, evalT, evalO, evalArgs, evalParts, getF, putF, afterRegion, assignV, boxOf, newBox, hasIdsP, keepF, ofVal, ofCell, plen, pesz, callV, builtinV, lenV, binV, unV, arith, shiftI, loadV, storeV, putV, indexAddrV, live, upd, pget, pset, psetA, pagg, retag, retagP, byteAV, freezeP, freezeV, joinTags, joinTag, tags, ids, scalar, cellsLen, eqV, convV, faV, fvV, shiftBy, shiftRo])
      refine condT (by simp [evalO, getF, heb2]) ?_
      apply Run.seq
      · apply Run.dy (by simp) keep19_30 (by simp)
        · (conv => lhs; simp (maxSteps := 2000000) -implicitDefEqProofs [-getElem?_pos, List.getElem?_cons_zero, List.getElem?_cons_succ, exec, runOps, dstOk, wantedV, AM.step, evalT, evalO, evalArgs, evalParts, getF, putF, afterRegion, assignV, boxOf, newBox, hasIdsP, keepF, ofVal, ofCell, plen, pesz, callV, builtinV, lenV, binV, unV, arith, shiftI, loadV, storeV, putV, indexAddrV, live, upd, pget, pset, psetA, pagg, retag, retagP, byteAV, freezeP, freezeV, joinTags, joinTag, tags, ids, scalar, cellsLen, eqV, convV, faV, fvV, shiftBy, shiftRo, runD, out1, markOf, freeO, quietO, pushes, isAssign, calledV, touched, mentioned, opVals, touchCall, mentionCall, idsAt, Op.operands, ids, idsL, lendArgs, lendV, lend1, lendL, cmO, Cm.pay, bd26n, flatCells, splice, scalars, scalar])
        · kernel_rfl
        · rfl
      · refine ⟨0, ?_⟩
        simp (maxSteps := 2000000) -implicitDefEqProofs [-getElem?_pos, List.getElem?_cons_zero, List.getElem?_cons_succ, exec, runOps, dstOk, wantedV, AM.step, evalT, evalO, evalArgs, evalParts, getF, putF, afterRegion, assignV, boxOf, newBox, hasIdsP, keepF, ofVal, ofCell, plen, pesz, callV, builtinV, lenV, binV, unV, arith, shiftI, loadV, storeV, putV, indexAddrV, live, upd, pget, pset, psetA, pagg, retag, retagP, byteAV, freezeP, freezeV, joinTags, joinTag, tags, ids, scalar, cellsLen, eqV, convV, faV, fvV, shiftBy, shiftRo, keepF, getF, cmO, Cm.pay]
  obtain ⟨code', h1, h2⟩ := gen
  rw [hcode] at h1
  exact (Option.some.inj h1) ▸ h2

set_option maxRecDepth 100000 in
theorem read_code (hc : c = 0 → b = []) (hb : b.length ≤ 1000000) : ∃ code, Tryd.f19.body = some code ∧
    Tells (Rets (readP (readR b))) X (evT X) 19 0 code [(0, .ro c (.pb b) 1)] [] := by
  refine ⟨_, rfl, ?_⟩
  apply Tells.seq
  · (refine ⟨0, ?_⟩; conv => lhs; simp (maxSteps := 2000000) -implicitDefEqProofs [-getElem?_pos, List.getElem?_cons_zero, List.getElem?_cons_succ, exec, runOps, dstOk, wantedV, AM.step, evalT, evalO, evalArgs, evalParts, getF, putF, afterRegion, assignV, boxOf, newBox, hasIdsP, keepF, ofVal, ofCell, plen, pesz, callV, builtinV, lenV, binV, unV, arith, shiftI, loadV, storeV, putV, indexAddrV, live, upd, pget, pset, psetA, pagg, retag, retagP, byteAV, freezeP, freezeV, joinTags, joinTag, tags, ids, scalar, cellsLen, eqV, convV, faV, fvV, shiftBy, shiftRo])
  apply Tells.seq
  · (refine ⟨0, ?_⟩; conv => lhs; simp (maxSteps := 2000000) -implicitDefEqProofs [-getElem?_pos, List.getElem?_cons_zero, List.getElem?_cons_succ, exec, runOps, dstOk, wantedV, AM.step, evalT, evalO, evalArgs, evalParts, getF, putF, afterRegion, assignV, boxOf, newBox, hasIdsP, keepF, ofVal, ofCell, plen, pesz, callV, builtinV, lenV, binV, unV, arith, shiftI, loadV, storeV, putV, indexAddrV, live, upd, pget, pset, psetA, pagg, retag, retagP, byteAV, freezeP, freezeV, joinTags, joinTag, tags, ids, scalar, cellsLen, eqV, convV, faV, fvV, shiftBy, shiftRo, bd48])
  have hF := fun z => fixed_ev (H := [z, some (rdO c 1 0 (b, 0))]) (o := 1) (c := c) (t := 1) (tg := 0) (n := 1) (N := 1) (s := (b, 0)) rfl rfl hc (by simp only; omega) (by omega) (by omega)
  have hk := fx_lt (n := 1) (b, 0)
  have hl := fx_len 1 (b, 0)
  have hc1 := fx_nil (n := 1) (s := (b, 0)) (c := c) hc
  unfold readR
  generalize (fx 1 (b, 0)).1 = k at *
  generalize (fx 1 (b, 0)).2 = s at *
  obtain ⟨b1, e1⟩ := s
  simp only at hl hc1 hF ⊢
  have wk : IntKind.u8.wrap ((k : Nat) : Int) = (k : Nat) := wrap_u8 (by omega) (by omega)
  apply Tells.seq (fr' := [(2, .ptr 0 0 0 0), (4, .ptr 1 0 0 0), (5, .ptr 2 0 0 0)]) (H' := [some (cmO { k := 0 } (.ro 0 .pn 0)), some (rdO c 1 1 (b1, e1)), some (cmO { k := k } (.ro 0 .pn 0))])
  · simp only [rdO, upd, List.set_cons_succ, List.set_cons_zero] at hF
    (refine ⟨0, ?_⟩; simp (maxSteps := 2000000) -implicitDefEqProofs [-getElem?_pos, List.getElem?_cons_zero, List.getElem?_cons_succ, exec, runOps, dstOk, wantedV, AM.step, evalT, evalO, evalArgs, evalParts, getF, putF, afterRegion, assignV, boxOf, newBox, hasIdsP, keepF, ofVal, ofCell, plen, pesz, callV, builtinV, lenV, binV, unV, arith, shiftI, loadV, storeV, putV, indexAddrV, live, upd, pget, pset, psetA, pagg, retag, retagP, byteAV, freezeP, freezeV, joinTags, joinTag, tags, ids, scalar, cellsLen, eqV, convV, faV, fvV, shiftBy, shiftRo, rdO, cmO, Cm.pay, hF, wk, bd26, flatCells, splice, scalars, scalar])
  clear hF
  by_cases he : e1 = 0
  · subst he
    rw [if_neg (by simp)]
    apply Tells.seq
    · (refine ⟨0, ?_⟩; conv => lhs; simp (maxSteps := 2000000) -implicitDefEqProofs [-getElem?_pos, List.getElem?_cons_zero, List.getElem?_cons_succ, exec, runOps, dstOk, wantedV, AM.step, evalT, evalO, evalArgs, evalParts, getF, putF, afterRegion, assignV, boxOf, newBox, hasIdsP, keepF, ofVal, ofCell, plen, pesz, callV, builtinV, lenV, binV, unV, arith, shiftI, loadV, storeV, putV, indexAddrV, live, upd, pget, pset, psetA, pagg, retag, retagP, byteAV, freezeP, freezeV, joinTags, joinTag, tags, ids, scalar, cellsLen, eqV, convV, faV, fvV, shiftBy, shiftRo, rdO])
    have hk' : k < 256 := by omega
    have hS := fun H => shape_ev hk' H
    apply Tells.assoc
    apply Tells.seq (fr' := blkFr ((shp k : Nat) : Int)) (H' := [some (cmO { k := 0 } (.ro 0 .pn 0)), some (rdO c 1 1 (b1, 0)), some (cmO { k := k } (.ro 0 .pn 0))])
    · (refine ⟨0, ?_⟩; simp (maxSteps := 2000000) -implicitDefEqProofs [-getElem?_pos, List.getElem?_cons_zero, List.getElem?_cons_succ, exec, runOps, dstOk, wantedV, AM.step, evalT, evalO, evalArgs, evalParts, getF, putF, afterRegion, assignV, boxOf, newBox, hasIdsP, keepF, ofVal, ofCell, plen, pesz, callV, builtinV, lenV, binV, unV, arith, shiftI, loadV, storeV, putV, indexAddrV, live, upd, pget, pset, psetA, pagg, retag, retagP, byteAV, freezeP, freezeV, joinTags, joinTag, tags, ids, scalar, cellsLen, eqV, convV, faV, fvV, shiftBy, shiftRo, rdO, cmO, Cm.pay, hS, blkFr])
    clear hS
    apply Tells.andThen (P := blkP (some (cmO { k := 0 } (.ro 0 .pn 0))) (bodyR k (b1, 0)))
    · obtain ⟨code, hcode, hblk⟩ := blk_all (s := (b1, 0)) k hc1 (by simp only; omega) (some (cmO { k := 0 } (.ro 0 .pn 0)))
      have gen : ∀ code', blkO = some code' → Tells (Goes (blkP (some (cmO { k := 0 } (.ro 0 .pn 0))) (bodyR k (b1, 0)))) X (evT X) 19 0 code' (blkFr ((shp k : Nat) : Int)) [some (cmO { k := 0 } (.ro 0 .pn 0)), some (rdO c 1 1 (b1, 0)), some (cmO { k := k } (.ro 0 .pn 0))] := fun code' h => by
        rw [hcode] at h
        exact (Option.some.inj h) ▸ hblk
      exact gen _ rfl
    rintro fr H ⟨bx, d, ext, tl, rfl, rfl, hbx, hd⟩
    exact read_end _ d ext tl hbx hd _ rfl
  · rw [if_pos (by simpa using he)]
    have heb : (e1 != 0) = true := by simpa using he
    refine Tells.of (o := ⟨.ret, [(2, .ptr 0 0 0 0), (3, .int .i64 e1)], [some (cmO { k := 0 } (.ro 0 .pn 0)), some (rdO c 1 1 (b1, e1)), some (cmO { k := k } (.ro 0 .pn 0))]⟩) ?_ ⟨rfl, .ro 0 .pn 0, rfl, rfl, rfl, .inl ⟨rfl, rfl⟩⟩
    apply Run.seq_out (hne := by simp)
    apply Run.seq
    · (refine ⟨0, ?_⟩; conv => lhs; simp (maxSteps := 2000000) -implicitDefEqProofs [-getElem?_pos, List.getElem?_cons_zero, List.getElem?_cons_succ, exec, runOps, dstOk, wantedV, AM.step, evalT, evalO, evalArgs, evalParts, getF, putF, afterRegion, assignV, boxOf, newBox, hasIdsP, keepF, ofVal, ofCell, plen, pesz, callV, builtinV, lenV, binV, unV, arith, shiftI, loadV, storeV, putV, indexAddrV, live, upd, pget, pset, psetA, pagg, retag, retagP, byteAV, freezeP, freezeV, joinTags, joinTag, tags, ids, scalar, cellsLen, eqV, convV, faV, fvV, shiftBy, shiftRo, rdO])
    refine Run.cond (d := true) (by simp [evalO, getF, heb]) ?_
    rw [if_pos rfl]
    apply Run.seq
    · apply Run.dy (by simp) keep19_4 (by simp)
      · (conv => lhs; simp (maxSteps := 2000000) -implicitDefEqProofs [-getElem?_pos, List.getElem?_cons_zero, List.getElem?_cons_succ, exec, runOps, dstOk, wantedV, AM.step, evalT, evalO, evalArgs, evalParts, getF, putF, afterRegion, assignV, boxOf, newBox, hasIdsP, keepF, ofVal, ofCell, plen, pesz, callV, builtinV, lenV, binV, unV, arith, shiftI, loadV, storeV, putV, indexAddrV, live, upd, pget, pset, psetA, pagg, retag, retagP, byteAV, freezeP, freezeV, joinTags, joinTag, tags, ids, scalar, cellsLen, eqV, convV, faV, fvV, shiftBy, shiftRo, runD, out1, markOf, freeO, quietO, pushes, isAssign, calledV, touched, mentioned, opVals, touchCall, mentionCall, idsAt, Op.operands, ids, idsL, lendArgs, lendV, lend1, lendL, rdO, cmO, Cm.pay, bd26n, flatCells, splice, scalars, scalar])
      · kernel_rfl
      · rfl
    · refine ⟨0, ?_⟩
      simp (maxSteps := 2000000) -implicitDefEqProofs [-getElem?_pos, List.getElem?_cons_zero, List.getElem?_cons_succ, exec, runOps, dstOk, wantedV, AM.step, evalT, evalO, evalArgs, evalParts, getF, putF, afterRegion, assignV, boxOf, newBox, hasIdsP, keepF, ofVal, ofCell, plen, pesz, callV, builtinV, lenV, binV, unV, arith, shiftI, loadV, storeV, putV, indexAddrV, live, upd, pget, pset, psetA, pagg, retag, retagP, byteAV, freezeP, freezeV, joinTags, joinTag, tags, ids, scalar, cellsLen, eqV, convV, faV, fvV, shiftBy, shiftRo, keepF, getF, rdO, cmO, Cm.pay]

end

end Go.Proofs.YtmdciglfpedhgaaDoor
