/- Walks: the document's Read. -/
import Derived.Test.YtmdciglfpedhgaaKI
namespace Go.Proofs.Ytmdciglfpedhgaa
open Go.AM
set_option linter.unusedSimpArgs false
set_option linter.unusedVariables false

theorem blkF_all {c : Nat} {s : St} (k : Nat) (hc : c = 0 → s.1 = []) (hb : s.1.length ≤ 1000000) (z : Option AM.Obj) : ∃ c4 c6, stFO = some c4 ∧ blkFO = some c6 ∧
    Tells (Goes (blkFP z (bodyF k s))) X (evT X) 14 0 (.seq c4 c6) (feFr ((shp k : Nat) : Int)) [z, some (rdO c 1 1 s), some (cmO { k := k } (.ro 0 .pn 0))] := by
  have h9 := shp_lt k
  have hc4 := fx_nil (n := 4) hc
  have hl4 := fx_len 4 s
  unfold bodyF
  generalize shp k = j at *
  match j, h9 with
  | 0, _ =>
    obtain ⟨c4, h4, r4⟩ := stF0 (c := c) (s := s) (k := k) z
    obtain ⟨c6, h6, r6⟩ := blkF0 (c := c) (s := s) (k := k) (st := 0) z
    exact ⟨c4, c6, h4, h6, Tells.seq r4 r6⟩
  | 1, _ =>
    obtain ⟨c4, h4, r4⟩ := stF1 (c := c) (s := s) (k := k) z
    obtain ⟨c6, h6, r6⟩ := blkF1 (c := c) (s := s) (k := k) (st := 0) hb z
    exact ⟨c4, c6, h4, h6, Tells.seq r4 r6⟩
  | 2, _ =>
    obtain ⟨c4, h4, r4⟩ := stF2 (c := c) (s := s) (k := k) z
    obtain ⟨c6, h6, r6⟩ := blkF2 (c := c) (s := s) (k := k) (st := 0) hc z
    exact ⟨c4, c6, h4, h6, Tells.seq r4 r6⟩
  | 3, _ =>
    obtain ⟨c4, h4, r4⟩ := stF3 (c := c) (s := s) (k := k) hc z
    obtain ⟨c6, h6, r6⟩ := blkF3 (c := c) (s := (fx 4 s).2) (k := k) (st := (fx 4 s).1) hc4 (by omega) z _ _ rfl rfl
    exact ⟨c4, c6, h4, h6, Tells.seq r4 r6⟩
  | 4, _ =>
    obtain ⟨c4, h4, r4⟩ := stF4 (c := c) (s := s) (k := k) hc z
    obtain ⟨c6, h6, r6⟩ := blkF4 (c := c) (s := (fx 4 s).2) (k := k) (st := (fx 4 s).1) hc4 (by omega) z
    exact ⟨c4, c6, h4, h6, Tells.seq r4 r6⟩
  | 5, _ =>
    obtain ⟨c4, h4, r4⟩ := stF5 (c := c) (s := s) (k := k) hc z
    obtain ⟨c6, h6, r6⟩ := blkF5 (c := c) (s := (fx 4 s).2) (k := k) (st := (fx 4 s).1) z
    exact ⟨c4, c6, h4, h6, Tells.seq r4 r6⟩
  | 6, _ =>
    obtain ⟨c4, h4, r4⟩ := stF6 (c := c) (s := s) (k := k) z
    obtain ⟨c6, h6, r6⟩ := blkF6 (c := c) (s := s) (k := k) (st := 0) hc z
    exact ⟨c4, c6, h4, h6, Tells.seq r4 r6⟩
  | 7, _ =>
    obtain ⟨c4, h4, r4⟩ := stF7 (c := c) (s := s) (k := k) hc z
    obtain ⟨c6, h6, r6⟩ := blkF7 (c := c) (s := (fx 4 s).2) (k := k) (st := (fx 4 s).1) hc4 z
    exact ⟨c4, c6, h4, h6, Tells.seq r4 r6⟩
  | 8, _ =>
    obtain ⟨c4, h4, r4⟩ := stF8 (c := c) (s := s) (k := k) z
    obtain ⟨c6, h6, r6⟩ := blkF8 (c := c) (s := s) (k := k) (st := 0) hb z
    exact ⟨c4, c6, h4, h6, Tells.seq r4 r6⟩

theorem Tells.unassoc {Q : AM.Out → Prop} {C : Ctx} {T : Cf} {f m : Nat} {fr : AM.Frame} {H : AM.Heap} {a b c : Code} (h : Tells Q C T f m (.seq (.seq a b) c) fr H) : Tells Q C T f m (.seq a (.seq b c)) fr H := by
  obtain ⟨o, hq, k, hk⟩ := h
  refine ⟨o, hq, k, ?_⟩
  simp only [exec] at hk ⊢
  rw [← hk]
  cases ha : exec C T f m k a fr H with
  | none => rfl
  | some r =>
    obtain ⟨ex, fr', H'⟩ := r
    cases ex with
    | normal => simp only
    | ret => simp only
    | exit i => simp only

def finF (r : Cm × St) : Cm × Int := if wr (decide (0 < r.2.1.length)) r.2.2 ≠ 0 then ({ k := 0 }, wr (decide (0 < r.2.1.length)) r.2.2) else (r.1, 0)
def readF (b : List UInt8) : Cm × Int := finF (bodyF (fx 1 (b, 0)).1 (fx 1 (b, 0)).2)

theorem bd53 (c : Nat) (b : List UInt8) (t : Nat) : buildV X 53 [(0, .ro c (.pb b) t)] = some (.agg (.pc [.ro c (.pb b) t, .int .i64 0])) := by kernel_rfl

theorem datIs3.scalar {H : AM.Heap} {d : AV} {l : List UInt8} (h : datIs3 H d l) : scalar d = true := by
  rcases h with ⟨rfl, rfl⟩ | ⟨o, ob, rfl, _⟩ <;> rfl

theorem jB {l : List UInt8} (p : AV) (c t tg : Nat) (e : Int) (hp : PB p l) : joinTags (tagsOb (bxO p c t tg e)) = some t := by
  rcases hp with rfl | ⟨rfl, _⟩ <;> (simp [tagsOb, bxO, tags, tagsL, joinTags, joinTag]; omega)

section
variable (c : Nat) (b : List UInt8)

noncomputable def endFO : Option Code := ((((((Try.f14.body).bind cR).bind cR).bind cR).bind cR).bind cR).bind cR

set_option maxRecDepth 100000 in
theorem read_endF (r : Cm × St) (d : AV) (ext : AM.Heap) (tl : AM.Frame) {bx : AM.Obj} (hbx : boxF bx r.2) (hd : datIs3 (some (cmO { k := 0 } (.ro 0 .pn 0)) :: some bx :: some (cmO r.1 d) :: ext) d r.1.dat) : ∃ code, endFO = some code ∧
    Tells (Rets (readP (finF r))) X (evT X) 14 0 code
      ((2, .ptr 0 0 0 0) :: (4, .ptr 1 0 0 0) :: (5, .ptr 2 0 0 0) :: tl) (some (cmO { k := 0 } (.ro 0 .pn 0)) :: some bx :: some (cmO r.1 d) :: ext) := by
  refine ⟨_, rfl, ?_⟩
  obtain ⟨x, l, e⟩ := r
  obtain ⟨p, c, t, hp, ht, rfl⟩ := hbx
  simp only at hp hd ⊢
  have hD := doneF_ev (H := some (cmO { k := 0 } (.ro 0 .pn 0)) :: some (bxO p c t 1 e) :: some (cmO x d) :: ext) (o := 1) (k := t) rfl hp (jB p c t 1 e hp)
  unfold finF
  simp only
  generalize wr (decide (0 < l.length)) e = e2 at *
  have hds := hd.scalar
  by_cases he : e2 = 0
  · subst he
    rw [if_neg (by simp)]
    refine Tells.of (o := ⟨.ret, [(2, .ptr 0 0 0 0), (3, .int .i64 0)], some (cmO x d) :: some (bxO p c t t 0) :: some (cmO x d) :: ext⟩) ⟨0, ?_⟩ ⟨rfl, d, rfl, rfl, rfl, hd.to⟩
    simp only [upd, List.set_cons_succ, List.set_cons_zero, cmO, Cm.pay, bxO, Int.cast_ofNat_Int] at hD
    have hd2 := hd
    rcases hd2 with ⟨rfl, _⟩ | ⟨o, ob, rfl, _⟩
    · simp (maxSteps := 2000000) -implicitDefEqProofs [-getElem?_pos, List.getElem?_cons_zero, List.getElem?_cons_succ, exec, runOps, dstOk, wantedV, AM.step, evalT, evalO, evalArgs, evalParts, getF, putF, afterRegion, assignV, boxOf, newBox, hasIdsP, keepF, ofVal, ofCell, plen, pesz, callV, builtinV, lenV, binV, unV, arith, shiftI, loadV, storeV, putV, indexAddrV, live, upd, pget, pset, psetA, pagg, retag, retagP, byteAV, freezeP, freezeV, joinTags, joinTag, tags, ids, scalar, cellsLen, eqV, convV, faV, fvV, shiftBy, shiftRo, hD, cmO, Cm.pay, bxO, flatCells, splice, scalars, scalar, mk26]
    · simp (maxSteps := 2000000) -implicitDefEqProofs [-getElem?_pos, List.getElem?_cons_zero, List.getElem?_cons_succ, exec, runOps, dstOk, wantedV, AM.step, evalT, evalO, evalArgs, evalParts, getF, putF, afterRegion, assignV, boxOf, newBox, hasIdsP, keepF, ofVal, ofCell, plen, pesz, callV, builtinV, lenV, binV, unV, arith, shiftI, loadV, storeV, putV, indexAddrV, live, upd, pget, pset, psetA, pagg, retag, retagP, byteAV, freezeP, freezeV, joinTags, joinTag, tags, ids, scalar, cellsLen, eqV, convV, faV, fvV, shiftBy, shiftRo, hD, cmO, Cm.pay, bxO, flatCells, splice, scalars, scalar, mk26]
  · rw [if_pos he]
    have heb : (e2 != 0) = true := by simpa using he
    refine Tells.of (o := ⟨.ret, [(2, .ptr 0 0 0 0), (3, .int .i64 e2)], some (cmO { k := 0 } (.ro 0 .pn 0)) :: some (bxO p c t t e2) :: some (cmO x d) :: ext⟩) ?_ ⟨rfl, .ro 0 .pn 0, rfl, rfl, rfl, .inl ⟨rfl, rfl⟩⟩
    simp only [upd, List.set_cons_succ, List.set_cons_zero, cmO, Cm.pay, bxO, Int.cast_ofNat_Int] at hD
    apply Run.seq_out (hne := by simp)
    apply Run.seq
    · (refine ⟨0, ?_⟩; conv => lhs; simp (maxSteps := 2000000) -implicitDefEqProofs [-getElem?_pos, List.getElem?_cons_zero, List.getElem?_cons_succ, exec, runOps, dstOk, wantedV, AM.step, evalT, evalO, evalArgs, evalParts, getF, putF, afterRegion, assignV, boxOf, newBox, hasIdsP, keepF, ofVal, ofCell, plen, pesz, callV, builtinV, lenV, binV, unV, arith, shiftI, loadV, storeV, putV, indexAddrV, live, upd, pget, pset, psetA, pagg, retag, retagP, byteAV, freezeP, freezeV, joinTags, joinTag, tags, ids, scalar, cellsLen, eqV, convV, faV, fvV, shiftBy, shiftRo, hD, cmO, Cm.pay, bxO])
    refine condT (by simp [evalO, getF, heb]) ?_
    apply Run.seq
    · apply Run.dy (by simp) keep14_26 (by simp)
      · (conv => lhs; simp (maxSteps := 2000000) -implicitDefEqProofs [-getElem?_pos, List.getElem?_cons_zero, List.getElem?_cons_succ, exec, runOps, dstOk, wantedV, AM.step, evalT, evalO, evalArgs, evalParts, getF, putF, afterRegion, assignV, boxOf, newBox, hasIdsP, keepF, ofVal, ofCell, plen, pesz, callV, builtinV, lenV, binV, unV, arith, shiftI, loadV, storeV, putV, indexAddrV, live, upd, pget, pset, psetA, pagg, retag, retagP, byteAV, freezeP, freezeV, joinTags, joinTag, tags, ids, scalar, cellsLen, eqV, convV, faV, fvV, shiftBy, shiftRo, runD, out1, markOf, freeO, quietO, pushes, isAssign, calledV, touched, mentioned, opVals, touchCall, mentionCall, idsAt, Op.operands, ids, idsL, lendArgs, lendV, lend1, lendL, cmO, Cm.pay, bxO, bd26n, flatCells, splice, scalars, scalar])
      · kernel_rfl
      · rfl
    · refine ⟨0, ?_⟩
      simp (maxSteps := 2000000) -implicitDefEqProofs [-getElem?_pos, List.getElem?_cons_zero, List.getElem?_cons_succ, exec, runOps, dstOk, wantedV, AM.step, evalT, evalO, evalArgs, evalParts, getF, putF, afterRegion, assignV, boxOf, newBox, hasIdsP, keepF, ofVal, ofCell, plen, pesz, callV, builtinV, lenV, binV, unV, arith, shiftI, loadV, storeV, putV, indexAddrV, live, upd, pget, pset, psetA, pagg, retag, retagP, byteAV, freezeP, freezeV, joinTags, joinTag, tags, ids, scalar, cellsLen, eqV, convV, faV, fvV, shiftBy, shiftRo, keepF, getF, cmO, Cm.pay, bxO]

set_option maxRecDepth 100000 in
theorem readF_code (hc : c = 0 → b = []) (hb : b.length ≤ 1000000) : ∃ code, Try.f14.body = some code ∧
    Tells (Rets (readP (readF b))) X (evT X) 14 0 code [(0, .ro c (.pb b) 1)] [] := by
  refine ⟨_, rfl, ?_⟩
  apply Tells.seq
  · (refine ⟨0, ?_⟩; conv => lhs; simp (maxSteps := 2000000) -implicitDefEqProofs [-getElem?_pos, List.getElem?_cons_zero, List.getElem?_cons_succ, exec, runOps, dstOk, wantedV, AM.step, evalT, evalO, evalArgs, evalParts, getF, putF, afterRegion, assignV, boxOf, newBox, hasIdsP, keepF, ofVal, ofCell, plen, pesz, callV, builtinV, lenV, binV, unV, arith, shiftI, loadV, storeV, putV, indexAddrV, live, upd, pget, pset, psetA, pagg, retag, retagP, byteAV, freezeP, freezeV, joinTags, joinTag, tags, ids, scalar, cellsLen, eqV, convV, faV, fvV, shiftBy, shiftRo])
  apply Tells.seq
  · (refine ⟨0, ?_⟩; conv => lhs; simp (maxSteps := 2000000) -implicitDefEqProofs [-getElem?_pos, List.getElem?_cons_zero, List.getElem?_cons_succ, exec, runOps, dstOk, wantedV, AM.step, evalT, evalO, evalArgs, evalParts, getF, putF, afterRegion, assignV, boxOf, newBox, hasIdsP, keepF, ofVal, ofCell, plen, pesz, callV, builtinV, lenV, binV, unV, arith, shiftI, loadV, storeV, putV, indexAddrV, live, upd, pget, pset, psetA, pagg, retag, retagP, byteAV, freezeP, freezeV, joinTags, joinTag, tags, ids, scalar, cellsLen, eqV, convV, faV, fvV, shiftBy, shiftRo, bd53])
  have hF := fun z => byteF_ev (H := [z, some (rdO c 1 0 (b, 0))]) (o := 1) (c := c) (t := 1) (tg := 0) (s := (b, 0)) rfl (by simp [tagsOb, rdO, tags, tagsL, joinTags, joinTag]) hc
  have hk := fx_lt (n := 1) (b, 0)
  have hl := fx_len 1 (b, 0)
  have hc1 := fx_nil (n := 1) (s := (b, 0)) (c := c) hc
  unfold readF
  generalize (fx 1 (b, 0)).1 = k at *
  generalize (fx 1 (b, 0)).2 = s at *
  simp only at hl hc1 hF ⊢
  apply Tells.seq (fr' := [(2, .ptr 0 0 0 0), (4, .ptr 1 0 0 0), (5, .ptr 2 0 0 0)]) (H' := [some (cmO { k := 0 } (.ro 0 .pn 0)), some (rdO c 1 1 s), some (cmO { k := k } (.ro 0 .pn 0))])
  · simp only [rdO, upd, List.set_cons_succ, List.set_cons_zero] at hF
    (refine ⟨0, ?_⟩; simp (maxSteps := 2000000) -implicitDefEqProofs [-getElem?_pos, List.getElem?_cons_zero, List.getElem?_cons_succ, exec, runOps, dstOk, wantedV, AM.step, evalT, evalO, evalArgs, evalParts, getF, putF, afterRegion, assignV, boxOf, newBox, hasIdsP, keepF, ofVal, ofCell, plen, pesz, callV, builtinV, lenV, binV, unV, arith, shiftI, loadV, storeV, putV, indexAddrV, live, upd, pget, pset, psetA, pagg, retag, retagP, byteAV, freezeP, freezeV, joinTags, joinTag, tags, ids, scalar, cellsLen, eqV, convV, faV, fvV, shiftBy, shiftRo, rdO, cmO, Cm.pay, hF, bd26, flatCells, splice, scalars, scalar])
  clear hF
  have hk' : k < 256 := by omega
  have hS := fun H => shapeF_ev hk' H
  apply Tells.seq (fr' := feFr ((shp k : Nat) : Int)) (H' := [some (cmO { k := 0 } (.ro 0 .pn 0)), some (rdO c 1 1 s), some (cmO { k := k } (.ro 0 .pn 0))])
  · (refine ⟨0, ?_⟩; simp (maxSteps := 2000000) -implicitDefEqProofs [-getElem?_pos, List.getElem?_cons_zero, List.getElem?_cons_succ, exec, runOps, dstOk, wantedV, AM.step, evalT, evalO, evalArgs, evalParts, getF, putF, afterRegion, assignV, boxOf, newBox, hasIdsP, keepF, ofVal, ofCell, plen, pesz, callV, builtinV, lenV, binV, unV, arith, shiftI, loadV, storeV, putV, indexAddrV, live, upd, pget, pset, psetA, pagg, retag, retagP, byteAV, freezeP, freezeV, joinTags, joinTag, tags, ids, scalar, cellsLen, eqV, convV, faV, fvV, shiftBy, shiftRo, rdO, cmO, Cm.pay, hS, feFr])
  clear hS
  apply Tells.unassoc
  apply Tells.andThen (P := blkFP (some (cmO { k := 0 } (.ro 0 .pn 0))) (bodyF k s))
  · obtain ⟨c4, c6, h4, h6, hblk⟩ := blkF_all (s := s) k hc1 (by omega) (some (cmO { k := 0 } (.ro 0 .pn 0)))
    have gen : ∀ a b, stFO = some a → blkFO = some b → Tells (Goes (blkFP (some (cmO { k := 0 } (.ro 0 .pn 0))) (bodyF k s))) X (evT X) 14 0 (.seq a b) (feFr ((shp k : Nat) : Int)) [some (cmO { k := 0 } (.ro 0 .pn 0)), some (rdO c 1 1 s), some (cmO { k := k } (.ro 0 .pn 0))] := fun a b h h' => by
      rw [h4] at h; rw [h6] at h'
      exact (Option.some.inj h) ▸ (Option.some.inj h') ▸ hblk
    exact gen _ _ rfl rfl
  rintro fr H ⟨bx, d, ext, tl, rfl, rfl, hbx, hd⟩
  obtain ⟨code, hcode, he⟩ := read_endF (bodyF k s) d ext tl hbx hd
  have gen : ∀ code', endFO = some code' → Tells (Rets (readP (finF (bodyF k s)))) X (evT X) 14 0 code' ((2, .ptr 0 0 0 0) :: (4, .ptr 1 0 0 0) :: (5, .ptr 2 0 0 0) :: tl) (some (cmO { k := 0 } (.ro 0 .pn 0)) :: some bx :: some (cmO (bodyF k s).1 d) :: ext) := fun code' h => by
    rw [hcode] at h
    exact (Option.some.inj h) ▸ he
  exact gen _ rfl

end

end Go.Proofs.Ytmdciglfpedhgaa
