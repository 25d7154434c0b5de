/- Walks: the document's Read, its choice by the kind. -/
import Derived.Test.YtmdciglfpedhgaaF1
namespace Go.Proofs.Ytmdciglfpedhgaa
open Go.AM
set_option linter.unusedSimpArgs false
set_option linter.unusedVariables false

theorem shapeF_ev {k : Nat} (hk : k < 256) (H : AM.Heap) : evT X 26 [.int .u8 (k : Nat)] H = some (.int .i64 (shp k : Nat), H) :=
  evT_eq (Ev1.each (T := fun _ _ _ => none) Below.none (n := 60) (f := 26) (N := 256) (a := fun k => .int .u8 (k : Nat)) (v := fun k => .int .i64 (shp k : Nat)) (by kernel_rfl) (fun _ => rfl) hk H)

def rsS (s : St) : St := if s.2 ≠ 0 then s else ([], 0)

def bodyF (k : Nat) (s : St) : Cm × St :=
  match shp k with
  | 0 => ({ k := k }, s)
  | 1 => ({ k := k, txt := rsF s }, rsS s)
  | 2 => ({ k := k, co := (fx 4 s).1 }, (fx 4 s).2)
  | 3 =>
    let s1 := (fx 4 s).2
    let s2 := (fx 1 s1).2
    let s3 : St := (s2.1, wr (decide ((1 : Int) < ((fx 1 s1).1 : Nat))) s2.2)
    let s4 := (fx 4 s3).2
    let s5 : St := (s4.1, wr (((fx 4 s3).1 : Int) != 1) s4.2)
    ({ k := k, st := (fx 4 s).1, fl := (fx 1 s1).1, dat := rsF s5 }, rsS s5)
  | 4 => ({ k := k, st := (fx 4 s).1, pa := (fx 2 (fx 4 s).2).1, dat := rsF (fx 2 (fx 4 s).2).2 }, rsS (fx 2 (fx 4 s).2).2)
  | 5 => ({ k := k, st := (fx 4 s).1 }, (fx 4 s).2)
  | 6 => ({ k := k, op := (fx 2 s).1 }, (fx 2 s).2)
  | 7 => ({ k := k, st := (fx 4 s).1, co := (fx 4 (fx 4 s).2).1 }, (fx 4 (fx 4 s).2).2)
  | _ => ({ k := k, dat := rsF s }, rsS s)

/-- the fields' box -/
def boxF (bx : AM.Obj) (s : St) : Prop := ∃ p c t, PB p s.1 ∧ (t = 0 ∨ t = 1) ∧ bx = bxO p c t 1 s.2

theorem boxF.rd (c : Nat) (s : St) : boxF (rdO c 1 1 s) s := ⟨.pb s.1, c, 1, .inl rfl, .inr rfl, rfl⟩
theorem boxF.rs (c : Nat) (s : St) : boxF (rsO c 1 s) (rsS s) := by
  unfold rsO rsS
  split
  · exact boxF.rd c s
  · exact ⟨.pn, 0, 0, .inr ⟨rfl, rfl⟩, .inl rfl, rfl⟩

/-- the box's cells -/
abbrev bxU (c : Nat) (b : List UInt8) (e : Int) : AM.Obj := ⟨.pc [.ro c (.pb b) 1, .int .i64 e], 0, some 2, 1, false, true, 1⟩

theorem fixF3 {c n : Nat} {N : Int} (hN : N = (n : Nat)) {s : St} (hc : c = 0 → s.1 = []) (h1 : 1 ≤ n) (h8 : n ≤ 8) (z z2 : Option AM.Obj) :
    evT X 27 [.ptr 1 0 0 0, .int .i64 N] [z, some ⟨.pc [.ro c (.pb s.1) 1, .int .i64 s.2], 0, some 2, 1, false, true, 1⟩, z2] =
      some (.int .u64 ((fx n s).1 : Nat), [z, some ⟨.pc [.ro c (.pb (fx n s).2.1) 1, .int .i64 (fx n s).2.2], 0, some 2, 1, false, true, 1⟩, z2]) :=
  fixedF_ev (H := [z, some (rdO c 1 1 s), z2]) hN rfl (jt c 1 s) hc h1 h8

theorem byteF3 {c : Nat} {s : St} (hc : c = 0 → s.1 = []) (z z2 : Option AM.Obj) :
    evT X 25 [.ptr 1 0 0 0] [z, some ⟨.pc [.ro c (.pb s.1) 1, .int .i64 s.2], 0, some 2, 1, false, true, 1⟩, z2] =
      some (.int .u8 ((fx 1 s).1 : Nat), [z, some ⟨.pc [.ro c (.pb (fx 1 s).2.1) 1, .int .i64 (fx 1 s).2.2], 0, some 2, 1, false, true, 1⟩, z2]) :=
  byteF_ev (H := [z, some (rdO c 1 1 s), z2]) rfl (jt c 1 s) hc

theorem wrongF3 (c : Nat) (b : List UInt8) (e : Int) (bad : Bool) (z z2 : Option AM.Obj) :
    evT X 29 [.ptr 1 0 0 0, .bool bad] [z, some ⟨.pc [.ro c (.pb b) 1, .int .i64 e], 0, some 2, 1, false, true, 1⟩, z2] =
      some (.tup [], [z, some ⟨.pc [.ro c (.pb b) 1, .int .i64 (wr bad e)], 0, some 2, 1, false, true, 1⟩, z2]) :=
  wrong_ev (H := [z, some (bxO (.pb b) c 1 1 e), z2]) rfl (.inl rfl) (jt c 1 (b, e))

theorem restF3 (c : Nat) {s : St} (hb : s.1.length ≤ 1000000) (z z2 : Option AM.Obj) :
    ∃ ob, Rw (.pb (rsF s)) 0 ob ∧ evT X 28 [.ptr 1 0 0 0] [z, some ⟨.pc [.ro c (.pb s.1) 1, .int .i64 s.2], 0, some 2, 1, false, true, 1⟩, z2] =
      some (.sl 3 0 (rsF s).length 0, [z, some (rsO c 1 s), z2, some ob]) :=
  restF_ev (H := [z, some (rdO c 1 1 s), z2]) rfl (jt c 1 s) (by omega)

noncomputable def stFO : Option Code := (((((Try.f14.body).bind cR).bind cR).bind cR).bind cR).bind cL
noncomputable def blkFO : Option Code := ((((((Try.f14.body).bind cR).bind cR).bind cR).bind cR).bind cR).bind cL

def feFr (j : Int) : AM.Frame := [(2, .ptr 0 0 0 0), (4, .ptr 1 0 0 0), (5, .ptr 2 0 0 0), (6, .int .i64 j)]
/-- how the choice leaves the frame and the heap -/
def blkFP (z : Option AM.Obj) (r : Cm × St) (fr : AM.Frame) (H : AM.Heap) : Prop :=
  ∃ bx d ext tl, fr = (2, .ptr 0 0 0 0) :: (4, .ptr 1 0 0 0) :: (5, .ptr 2 0 0 0) :: tl ∧ H = z :: some bx :: some (cmO r.1 d) :: ext ∧ boxF bx r.2 ∧ datIs3 H d r.1.dat

section
variable {c : Nat} {s : St} {k : Nat} {st : Nat}


set_option maxRecDepth 100000 in
theorem stF0 (z : Option AM.Obj) : ∃ code, stFO = some code ∧
    Run X (evT X) 14 0 code (feFr 0) [z, some (rdO c 1 1 s), some (cmO { k := k } (.ro 0 .pn 0))] ⟨.normal, feFr 0 ++ [(26, .bool false)], [z, some (rdO c 1 1 s), some (cmO { k := k } (.ro 0 .pn 0))]⟩ := by
  refine ⟨_, rfl, 0, ?_⟩
  simp (maxSteps := 2000000) -implicitDefEqProofs [-getElem?_pos, List.getElem?_cons_zero, List.getElem?_cons_succ, exec, runOps, dstOk, wantedV, AM.step, evalT, evalO, evalArgs, evalParts, getF, putF, afterRegion, assignV, boxOf, newBox, hasIdsP, keepF, ofVal, ofCell, plen, pesz, callV, builtinV, lenV, binV, unV, arith, shiftI, loadV, storeV, putV, indexAddrV, live, upd, pget, pset, psetA, pagg, retag, retagP, byteAV, freezeP, freezeV, joinTags, joinTag, tags, ids, scalar, cellsLen, eqV, convV, faV, fvV, shiftBy, shiftRo, feFr]

set_option maxRecDepth 100000 in
theorem blkF0 (z : Option AM.Obj) : ∃ code, blkFO = some code ∧
    Tells (Goes (blkFP z ({ k := k, st := st }, s))) X (evT X) 14 0 code (feFr 0 ++ [(26, .bool false)]) [z, some (rdO c 1 1 s), some (cmO { k := k, st := st } (.ro 0 .pn 0))] := by
  refine ⟨_, rfl, ?_⟩
  refine Tells.of (o := ⟨.normal, [(2, .ptr 0 0 0 0), (4, .ptr 1 0 0 0), (5, .ptr 2 0 0 0)] ++ [(79, .bool false)], [z, some (rdO c 1 1 s), some (cmO { k := k, st := st } (.ro 0 .pn 0))]⟩) ⟨0, ?_⟩ ⟨rfl, _, .ro 0 .pn 0, [], [(79, .bool false)], rfl, rfl, boxF.rd c s, .inl ⟨rfl, rfl⟩⟩
  simp (maxSteps := 2000000) -implicitDefEqProofs [-getElem?_pos, List.getElem?_cons_zero, List.getElem?_cons_succ, exec, runOps, dstOk, wantedV, AM.step, evalT, evalO, evalArgs, evalParts, getF, putF, afterRegion, assignV, boxOf, newBox, hasIdsP, keepF, ofVal, ofCell, plen, pesz, callV, builtinV, lenV, binV, unV, arith, shiftI, loadV, storeV, putV, indexAddrV, live, upd, pget, pset, psetA, pagg, retag, retagP, byteAV, freezeP, freezeV, joinTags, joinTag, tags, ids, scalar, cellsLen, eqV, convV, faV, fvV, shiftBy, shiftRo, feFr]

set_option maxRecDepth 100000 in
theorem stF1 (z : Option AM.Obj) : ∃ code, stFO = some code ∧
    Run X (evT X) 14 0 code (feFr 1) [z, some (rdO c 1 1 s), some (cmO { k := k } (.ro 0 .pn 0))] ⟨.normal, feFr 1 ++ [(26, .bool false)], [z, some (rdO c 1 1 s), some (cmO { k := k } (.ro 0 .pn 0))]⟩ := by
  refine ⟨_, rfl, 0, ?_⟩
  simp (maxSteps := 2000000) -implicitDefEqProofs [-getElem?_pos, List.getElem?_cons_zero, List.getElem?_cons_succ, exec, runOps, dstOk, wantedV, AM.step, evalT, evalO, evalArgs, evalParts, getF, putF, afterRegion, assignV, boxOf, newBox, hasIdsP, keepF, ofVal, ofCell, plen, pesz, callV, builtinV, lenV, binV, unV, arith, shiftI, loadV, storeV, putV, indexAddrV, live, upd, pget, pset, psetA, pagg, retag, retagP, byteAV, freezeP, freezeV, joinTags, joinTag, tags, ids, scalar, cellsLen, eqV, convV, faV, fvV, shiftBy, shiftRo, feFr]

set_option maxRecDepth 100000 in
theorem blkF1 (hb : s.1.length ≤ 1000000) (z : Option AM.Obj) : ∃ code, blkFO = some code ∧
    Tells (Goes (blkFP z ({ k := k, st := st, txt := rsF s }, rsS s))) X (evT X) 14 0 code (feFr 1 ++ [(26, .bool false)]) [z, some (rdO c 1 1 s), some (cmO { k := k, st := st } (.ro 0 .pn 0))] := by
  refine ⟨_, rfl, ?_⟩
  obtain ⟨ob, hw, hR⟩ := restF3 c hb z (some (cmO { k := k, st := st } (.ro 0 .pn 0)))
  have hbx := boxF.rs c s
  generalize rsO c 1 s = bx at *
  generalize rsF s = l at *
  generalize rsS s = s' at *
  refine Tells.of (o := ⟨.normal, [(2, .ptr 0 0 0 0), (4, .ptr 1 0 0 0), (5, .ptr 2 0 0 0)], [z, some bx, some (cmO { k := k, st := st, txt := l } (.ro 0 .pn 0)), some ob]⟩) ⟨0, ?_⟩ ⟨rfl, _, .ro 0 .pn 0, [some ob], [], rfl, rfl, hbx, .inl ⟨rfl, rfl⟩⟩
  have hg := hw.g
  have hp := hw.p
  simp only [cmO, Cm.pay, Int.cast_ofNat_Int] at hR
  simp (maxSteps := 2000000) -implicitDefEqProofs [-getElem?_pos, List.getElem?_cons_zero, List.getElem?_cons_succ, exec, runOps, dstOk, wantedV, AM.step, evalT, evalO, evalArgs, evalParts, getF, putF, afterRegion, assignV, boxOf, newBox, hasIdsP, keepF, ofVal, ofCell, plen, pesz, callV, builtinV, lenV, binV, unV, arith, shiftI, loadV, storeV, putV, indexAddrV, live, upd, pget, pset, psetA, pagg, retag, retagP, byteAV, freezeP, freezeV, joinTags, joinTag, tags, ids, scalar, cellsLen, eqV, convV, faV, fvV, shiftBy, shiftRo, feFr, rdO, cmO, Cm.pay, hR, hg, hp, readSl, psub]

set_option maxRecDepth 100000 in
theorem stF2 (z : Option AM.Obj) : ∃ code, stFO = some code ∧
    Run X (evT X) 14 0 code (feFr 2) [z, some (rdO c 1 1 s), some (cmO { k := k } (.ro 0 .pn 0))] ⟨.normal, feFr 2 ++ [(26, .bool false)], [z, some (rdO c 1 1 s), some (cmO { k := k } (.ro 0 .pn 0))]⟩ := by
  refine ⟨_, rfl, 0, ?_⟩
  simp (maxSteps := 2000000) -implicitDefEqProofs [-getElem?_pos, List.getElem?_cons_zero, List.getElem?_cons_succ, exec, runOps, dstOk, wantedV, AM.step, evalT, evalO, evalArgs, evalParts, getF, putF, afterRegion, assignV, boxOf, newBox, hasIdsP, keepF, ofVal, ofCell, plen, pesz, callV, builtinV, lenV, binV, unV, arith, shiftI, loadV, storeV, putV, indexAddrV, live, upd, pget, pset, psetA, pagg, retag, retagP, byteAV, freezeP, freezeV, joinTags, joinTag, tags, ids, scalar, cellsLen, eqV, convV, faV, fvV, shiftBy, shiftRo, feFr]

set_option maxRecDepth 100000 in
theorem blkF2 (hc : c = 0 → s.1 = []) (z : Option AM.Obj) : ∃ code, blkFO = some code ∧
    Tells (Goes (blkFP z ({ k := k, st := st, co := (fx 4 s).1 }, (fx 4 s).2))) X (evT X) 14 0 code (feFr 2 ++ [(26, .bool false)]) [z, some (rdO c 1 1 s), some (cmO { k := k, st := st } (.ro 0 .pn 0))] := by
  refine ⟨_, rfl, ?_⟩
  have hF := fixF3 (N := 4) (n := 4) rfl hc (by omega) (by omega) z (some (cmO { k := k, st := st } (.ro 0 .pn 0)))
  have w := fx_lt (n := 4) s
  have w4 : IntKind.u32.wrap ((fx 4 s).1 : Nat) = ((fx 4 s).1 : Nat) := wrap_u32 (by omega) (by omega)
  refine Tells.of (o := ⟨.normal, [(2, .ptr 0 0 0 0), (4, .ptr 1 0 0 0), (5, .ptr 2 0 0 0)], [z, some (rdO c 1 1 (fx 4 s).2), some (cmO { k := k, st := st, co := (fx 4 s).1 } (.ro 0 .pn 0))]⟩) ⟨0, ?_⟩ ⟨rfl, _, .ro 0 .pn 0, [], [], rfl, rfl, boxF.rd c _, .inl ⟨rfl, rfl⟩⟩
  generalize fx 4 s = r at *
  simp only [cmO, Cm.pay, Int.cast_ofNat_Int] at hF
  simp (maxSteps := 2000000) -implicitDefEqProofs [-getElem?_pos, List.getElem?_cons_zero, List.getElem?_cons_succ, exec, runOps, dstOk, wantedV, AM.step, evalT, evalO, evalArgs, evalParts, getF, putF, afterRegion, assignV, boxOf, newBox, hasIdsP, keepF, ofVal, ofCell, plen, pesz, callV, builtinV, lenV, binV, unV, arith, shiftI, loadV, storeV, putV, indexAddrV, live, upd, pget, pset, psetA, pagg, retag, retagP, byteAV, freezeP, freezeV, joinTags, joinTag, tags, ids, scalar, cellsLen, eqV, convV, faV, fvV, shiftBy, shiftRo, feFr, rdO, cmO, Cm.pay, hF, w4]

set_option maxRecDepth 100000 in
theorem stF3 (hc : c = 0 → s.1 = []) (z : Option AM.Obj) : ∃ code, stFO = some code ∧
    Run X (evT X) 14 0 code (feFr 3) [z, some (rdO c 1 1 s), some (cmO { k := k } (.ro 0 .pn 0))] ⟨.normal, feFr 3, [z, some (rdO c 1 1 (fx 4 s).2), some (cmO { k := k, st := (fx 4 s).1 } (.ro 0 .pn 0))]⟩ := by
  refine ⟨_, rfl, 0, ?_⟩
  have hF := fixF3 (N := 4) (n := 4) rfl hc (by omega) (by omega) z (some (cmO { k := k } (.ro 0 .pn 0)))
  have w := fx_lt (n := 4) s
  have w4 : IntKind.u32.wrap ((fx 4 s).1 : Nat) = ((fx 4 s).1 : Nat) := wrap_u32 (by omega) (by omega)
  generalize fx 4 s = r at *
  simp only [cmO, Cm.pay, Int.cast_ofNat_Int] at hF
  simp (maxSteps := 2000000) -implicitDefEqProofs [-getElem?_pos, List.getElem?_cons_zero, List.getElem?_cons_succ, exec, runOps, dstOk, wantedV, AM.step, evalT, evalO, evalArgs, evalParts, getF, putF, afterRegion, assignV, boxOf, newBox, hasIdsP, keepF, ofVal, ofCell, plen, pesz, callV, builtinV, lenV, binV, unV, arith, shiftI, loadV, storeV, putV, indexAddrV, live, upd, pget, pset, psetA, pagg, retag, retagP, byteAV, freezeP, freezeV, joinTags, joinTag, tags, ids, scalar, cellsLen, eqV, convV, faV, fvV, shiftBy, shiftRo, feFr, rdO, cmO, Cm.pay, hF, w4]

set_option maxRecDepth 100000 in
theorem blkF3 (hc : c = 0 → s.1 = []) (hb : s.1.length ≤ 1000000) (z : Option AM.Obj) (s3 s5 : St)
    (h3 : s3 = ((fx 1 s).2.1, wr (decide ((1 : Int) < ((fx 1 s).1 : Nat))) (fx 1 s).2.2)) (h5 : s5 = ((fx 4 s3).2.1, wr (((fx 4 s3).1 : Int) != 1) (fx 4 s3).2.2)) : ∃ code, blkFO = some code ∧
    Tells (Goes (blkFP z ({ k := k, st := st, fl := (fx 1 s).1, dat := rsF s5 }, rsS s5))) X (evT X) 14 0 code (feFr 3) [z, some (rdO c 1 1 s), some (cmO { k := k, st := st } (.ro 0 .pn 0))] := by
  refine ⟨_, rfl, ?_⟩
  have hB := byteF3 hc z (some (cmO { k := k, st := st } (.ro 0 .pn 0)))
  have hl := fx_len 1 s
  have hc1 := fx_nil (n := 1) hc
  generalize fx 1 s = r at *
  obtain ⟨f, b2, e2⟩ := r
  simp only at h3 hl hc1 hB ⊢
  have hW := fun bad => wrongF3 c b2 e2 bad z (some (cmO { k := k, st := st, fl := f } (.ro 0 .pn 0)))
  have hF := fixF3 (N := 4) (n := 4) (s := s3) (c := c) rfl (by rw [h3]; exact hc1) (by omega) (by omega) z (some (cmO { k := k, st := st, fl := f } (.ro 0 .pn 0)))
  have hl4 := fx_len 4 s3
  have hl3 : s3.1.length ≤ 1000000 := by rw [h3]; simp only; omega
  subst h3
  generalize fx 4 (b2, wr (decide ((1 : Int) < (f : Nat))) e2) = r4 at *
  obtain ⟨o, b4, e4⟩ := r4
  simp only at h5 hl4 hl3 hF
  have hW2 := fun bad => wrongF3 c b4 e4 bad z (some (cmO { k := k, st := st, fl := f } (.ro 0 .pn 0)))
  obtain ⟨ob, hw, hR⟩ := restF3 c (s := s5) (by rw [h5]; simp only; omega) z (some (cmO { k := k, st := st, fl := f } (.ro 0 .pn 0)))
  subst h5
  have hbx := boxF.rs c (b4, wr ((o : Int) != 1) e4)
  generalize rsO c 1 (b4, wr ((o : Int) != 1) e4) = bx at *
  generalize rsF (b4, wr ((o : Int) != 1) e4) = l at *
  generalize rsS (b4, wr ((o : Int) != 1) e4) = s' at *
  refine Tells.of (o := ⟨.normal, [(2, .ptr 0 0 0 0), (4, .ptr 1 0 0 0), (5, .ptr 2 0 0 0)], [z, some bx, some (cmO { k := k, st := st, fl := f, dat := l } (.sl 3 0 l.length 0)), some ob]⟩) ⟨0, ?_⟩ ⟨rfl, _, .sl 3 0 l.length 0, [some ob], [], rfl, rfl, hbx, .inr ⟨3, ob, rfl, by omega, rfl, hw⟩⟩
  simp only [cmO, Cm.pay, Int.cast_ofNat_Int] at hB hW hF hW2 hR
  simp (maxSteps := 2000000) -implicitDefEqProofs [-getElem?_pos, List.getElem?_cons_zero, List.getElem?_cons_succ, exec, runOps, dstOk, wantedV, AM.step, evalT, evalO, evalArgs, evalParts, getF, putF, afterRegion, assignV, boxOf, newBox, hasIdsP, keepF, ofVal, ofCell, plen, pesz, callV, builtinV, lenV, binV, unV, arith, shiftI, loadV, storeV, putV, indexAddrV, live, upd, pget, pset, psetA, pagg, retag, retagP, byteAV, freezeP, freezeV, joinTags, joinTag, tags, ids, scalar, cellsLen, eqV, convV, faV, fvV, shiftBy, shiftRo, feFr, rdO, cmO, Cm.pay, hB, hW, hF, hW2, hR]

set_option maxRecDepth 100000 in
theorem stF4 (hc : c = 0 → s.1 = []) (z : Option AM.Obj) : ∃ code, stFO = some code ∧
    Run X (evT X) 14 0 code (feFr 4) [z, some (rdO c 1 1 s), some (cmO { k := k } (.ro 0 .pn 0))] ⟨.normal, feFr 4, [z, some (rdO c 1 1 (fx 4 s).2), some (cmO { k := k, st := (fx 4 s).1 } (.ro 0 .pn 0))]⟩ := by
  refine ⟨_, rfl, 0, ?_⟩
  have hF := fixF3 (N := 4) (n := 4) rfl hc (by omega) (by omega) z (some (cmO { k := k } (.ro 0 .pn 0)))
  have w := fx_lt (n := 4) s
  have w4 : IntKind.u32.wrap ((fx 4 s).1 : Nat) = ((fx 4 s).1 : Nat) := wrap_u32 (by omega) (by omega)
  generalize fx 4 s = r at *
  simp only [cmO, Cm.pay, Int.cast_ofNat_Int] at hF
  simp (maxSteps := 2000000) -implicitDefEqProofs [-getElem?_pos, List.getElem?_cons_zero, List.getElem?_cons_succ, exec, runOps, dstOk, wantedV, AM.step, evalT, evalO, evalArgs, evalParts, getF, putF, afterRegion, assignV, boxOf, newBox, hasIdsP, keepF, ofVal, ofCell, plen, pesz, callV, builtinV, lenV, binV, unV, arith, shiftI, loadV, storeV, putV, indexAddrV, live, upd, pget, pset, psetA, pagg, retag, retagP, byteAV, freezeP, freezeV, joinTags, joinTag, tags, ids, scalar, cellsLen, eqV, convV, faV, fvV, shiftBy, shiftRo, feFr, rdO, cmO, Cm.pay, hF, w4]

set_option maxRecDepth 100000 in
theorem blkF4 (hc : c = 0 → s.1 = []) (hb : s.1.length ≤ 1000000) (z : Option AM.Obj) : ∃ code, blkFO = some code ∧
    Tells (Goes (blkFP z ({ k := k, st := st, pa := (fx 2 s).1, dat := rsF (fx 2 s).2 }, rsS (fx 2 s).2))) X (evT X) 14 0 code (feFr 4) [z, some (rdO c 1 1 s), some (cmO { k := k, st := st } (.ro 0 .pn 0))] := by
  refine ⟨_, rfl, ?_⟩
  have hF := fixF3 (N := 2) (n := 2) rfl hc (by omega) (by omega) z (some (cmO { k := k, st := st } (.ro 0 .pn 0)))
  have w := fx_lt (n := 2) s
  have hl := fx_len 2 s
  have w4 : IntKind.u16.wrap ((fx 2 s).1 : Nat) = ((fx 2 s).1 : Nat) := wrap_u16 (by omega) (by omega)
  generalize fx 2 s = r at *
  obtain ⟨ob, hw, hR⟩ := restF3 c (s := r.2) (by omega) z (some (cmO { k := k, st := st, pa := r.1 } (.ro 0 .pn 0)))
  have hbx := boxF.rs c r.2
  generalize rsO c 1 r.2 = bx at *
  generalize rsF r.2 = l at *
  generalize rsS r.2 = s' at *
  refine Tells.of (o := ⟨.normal, [(2, .ptr 0 0 0 0), (4, .ptr 1 0 0 0), (5, .ptr 2 0 0 0)], [z, some bx, some (cmO { k := k, st := st, pa := r.1, dat := l } (.sl 3 0 l.length 0)), some ob]⟩) ⟨0, ?_⟩ ⟨rfl, _, .sl 3 0 l.length 0, [some ob], [], rfl, rfl, hbx, .inr ⟨3, ob, rfl, by omega, rfl, hw⟩⟩
  simp only [cmO, Cm.pay, Int.cast_ofNat_Int] at hF hR
  simp (maxSteps := 2000000) -implicitDefEqProofs [-getElem?_pos, List.getElem?_cons_zero, List.getElem?_cons_succ, exec, runOps, dstOk, wantedV, AM.step, evalT, evalO, evalArgs, evalParts, getF, putF, afterRegion, assignV, boxOf, newBox, hasIdsP, keepF, ofVal, ofCell, plen, pesz, callV, builtinV, lenV, binV, unV, arith, shiftI, loadV, storeV, putV, indexAddrV, live, upd, pget, pset, psetA, pagg, retag, retagP, byteAV, freezeP, freezeV, joinTags, joinTag, tags, ids, scalar, cellsLen, eqV, convV, faV, fvV, shiftBy, shiftRo, feFr, rdO, cmO, Cm.pay, hF, w4, hR]

set_option maxRecDepth 100000 in
theorem stF5 (hc : c = 0 → s.1 = []) (z : Option AM.Obj) : ∃ code, stFO = some code ∧
    Run X (evT X) 14 0 code (feFr 5) [z, some (rdO c 1 1 s), some (cmO { k := k } (.ro 0 .pn 0))] ⟨.normal, feFr 5, [z, some (rdO c 1 1 (fx 4 s).2), some (cmO { k := k, st := (fx 4 s).1 } (.ro 0 .pn 0))]⟩ := by
  refine ⟨_, rfl, 0, ?_⟩
  have hF := fixF3 (N := 4) (n := 4) rfl hc (by omega) (by omega) z (some (cmO { k := k } (.ro 0 .pn 0)))
  have w := fx_lt (n := 4) s
  have w4 : IntKind.u32.wrap ((fx 4 s).1 : Nat) = ((fx 4 s).1 : Nat) := wrap_u32 (by omega) (by omega)
  generalize fx 4 s = r at *
  simp only [cmO, Cm.pay, Int.cast_ofNat_Int] at hF
  simp (maxSteps := 2000000) -implicitDefEqProofs [-getElem?_pos, List.getElem?_cons_zero, List.getElem?_cons_succ, exec, runOps, dstOk, wantedV, AM.step, evalT, evalO, evalArgs, evalParts, getF, putF, afterRegion, assignV, boxOf, newBox, hasIdsP, keepF, ofVal, ofCell, plen, pesz, callV, builtinV, lenV, binV, unV, arith, shiftI, loadV, storeV, putV, indexAddrV, live, upd, pget, pset, psetA, pagg, retag, retagP, byteAV, freezeP, freezeV, joinTags, joinTag, tags, ids, scalar, cellsLen, eqV, convV, faV, fvV, shiftBy, shiftRo, feFr, rdO, cmO, Cm.pay, hF, w4]

set_option maxRecDepth 100000 in
theorem blkF5 (z : Option AM.Obj) : ∃ code, blkFO = some code ∧
    Tells (Goes (blkFP z ({ k := k, st := st }, s))) X (evT X) 14 0 code (feFr 5) [z, some (rdO c 1 1 s), some (cmO { k := k, st := st } (.ro 0 .pn 0))] := by
  refine ⟨_, rfl, ?_⟩
  refine Tells.of (o := ⟨.normal, [(2, .ptr 0 0 0 0), (4, .ptr 1 0 0 0), (5, .ptr 2 0 0 0)] ++ [(79, .bool false)], [z, some (rdO c 1 1 s), some (cmO { k := k, st := st } (.ro 0 .pn 0))]⟩) ⟨0, ?_⟩ ⟨rfl, _, .ro 0 .pn 0, [], [(79, .bool false)], rfl, rfl, boxF.rd c s, .inl ⟨rfl, rfl⟩⟩
  simp (maxSteps := 2000000) -implicitDefEqProofs [-getElem?_pos, List.getElem?_cons_zero, List.getElem?_cons_succ, exec, runOps, dstOk, wantedV, AM.step, evalT, evalO, evalArgs, evalParts, getF, putF, afterRegion, assignV, boxOf, newBox, hasIdsP, keepF, ofVal, ofCell, plen, pesz, callV, builtinV, lenV, binV, unV, arith, shiftI, loadV, storeV, putV, indexAddrV, live, upd, pget, pset, psetA, pagg, retag, retagP, byteAV, freezeP, freezeV, joinTags, joinTag, tags, ids, scalar, cellsLen, eqV, convV, faV, fvV, shiftBy, shiftRo, feFr]

set_option maxRecDepth 100000 in
theorem stF6 (z : Option AM.Obj) : ∃ code, stFO = some code ∧
    Run X (evT X) 14 0 code (feFr 6) [z, some (rdO c 1 1 s), some (cmO { k := k } (.ro 0 .pn 0))] ⟨.normal, feFr 6 ++ [(26, .bool false)], [z, some (rdO c 1 1 s), some (cmO { k := k } (.ro 0 .pn 0))]⟩ := by
  refine ⟨_, rfl, 0, ?_⟩
  simp (maxSteps := 2000000) -implicitDefEqProofs [-getElem?_pos, List.getElem?_cons_zero, List.getElem?_cons_succ, exec, runOps, dstOk, wantedV, AM.step, evalT, evalO, evalArgs, evalParts, getF, putF, afterRegion, assignV, boxOf, newBox, hasIdsP, keepF, ofVal, ofCell, plen, pesz, callV, builtinV, lenV, binV, unV, arith, shiftI, loadV, storeV, putV, indexAddrV, live, upd, pget, pset, psetA, pagg, retag, retagP, byteAV, freezeP, freezeV, joinTags, joinTag, tags, ids, scalar, cellsLen, eqV, convV, faV, fvV, shiftBy, shiftRo, feFr]

set_option maxRecDepth 100000 in
theorem blkF6 (hc : c = 0 → s.1 = []) (z : Option AM.Obj) : ∃ code, blkFO = some code ∧
    Tells (Goes (blkFP z ({ k := k, st := st, op := (fx 2 s).1 }, (fx 2 s).2))) X (evT X) 14 0 code (feFr 6 ++ [(26, .bool false)]) [z, some (rdO c 1 1 s), some (cmO { k := k, st := st } (.ro 0 .pn 0))] := by
  refine ⟨_, rfl, ?_⟩
  have hF := fixF3 (N := 2) (n := 2) rfl hc (by omega) (by omega) z (some (cmO { k := k, st := st } (.ro 0 .pn 0)))
  have w := fx_lt (n := 2) s
  have w4 : IntKind.u16.wrap ((fx 2 s).1 : Nat) = ((fx 2 s).1 : Nat) := wrap_u16 (by omega) (by omega)
  refine Tells.of (o := ⟨.normal, [(2, .ptr 0 0 0 0), (4, .ptr 1 0 0 0), (5, .ptr 2 0 0 0)], [z, some (rdO c 1 1 (fx 2 s).2), some (cmO { k := k, st := st, op := (fx 2 s).1 } (.ro 0 .pn 0))]⟩) ⟨0, ?_⟩ ⟨rfl, _, .ro 0 .pn 0, [], [], rfl, rfl, boxF.rd c _, .inl ⟨rfl, rfl⟩⟩
  generalize fx 2 s = r at *
  simp only [cmO, Cm.pay, Int.cast_ofNat_Int] at hF
  simp (maxSteps := 2000000) -implicitDefEqProofs [-getElem?_pos, List.getElem?_cons_zero, List.getElem?_cons_succ, exec, runOps, dstOk, wantedV, AM.step, evalT, evalO, evalArgs, evalParts, getF, putF, afterRegion, assignV, boxOf, newBox, hasIdsP, keepF, ofVal, ofCell, plen, pesz, callV, builtinV, lenV, binV, unV, arith, shiftI, loadV, storeV, putV, indexAddrV, live, upd, pget, pset, psetA, pagg, retag, retagP, byteAV, freezeP, freezeV, joinTags, joinTag, tags, ids, scalar, cellsLen, eqV, convV, faV, fvV, shiftBy, shiftRo, feFr, rdO, cmO, Cm.pay, hF, w4]

set_option maxRecDepth 100000 in
theorem stF7 (hc : c = 0 → s.1 = []) (z : Option AM.Obj) : ∃ code, stFO = some code ∧
    Run X (evT X) 14 0 code (feFr 7) [z, some (rdO c 1 1 s), some (cmO { k := k } (.ro 0 .pn 0))] ⟨.normal, feFr 7, [z, some (rdO c 1 1 (fx 4 s).2), some (cmO { k := k, st := (fx 4 s).1 } (.ro 0 .pn 0))]⟩ := by
  refine ⟨_, rfl, 0, ?_⟩
  have hF := fixF3 (N := 4) (n := 4) rfl hc (by omega) (by omega) z (some (cmO { k := k } (.ro 0 .pn 0)))
  have w := fx_lt (n := 4) s
  have w4 : IntKind.u32.wrap ((fx 4 s).1 : Nat) = ((fx 4 s).1 : Nat) := wrap_u32 (by omega) (by omega)
  generalize fx 4 s = r at *
  simp only [cmO, Cm.pay, Int.cast_ofNat_Int] at hF
  simp (maxSteps := 2000000) -implicitDefEqProofs [-getElem?_pos, List.getElem?_cons_zero, List.getElem?_cons_succ, exec, runOps, dstOk, wantedV, AM.step, evalT, evalO, evalArgs, evalParts, getF, putF, afterRegion, assignV, boxOf, newBox, hasIdsP, keepF, ofVal, ofCell, plen, pesz, callV, builtinV, lenV, binV, unV, arith, shiftI, loadV, storeV, putV, indexAddrV, live, upd, pget, pset, psetA, pagg, retag, retagP, byteAV, freezeP, freezeV, joinTags, joinTag, tags, ids, scalar, cellsLen, eqV, convV, faV, fvV, shiftBy, shiftRo, feFr, rdO, cmO, Cm.pay, hF, w4]

set_option maxRecDepth 100000 in
theorem blkF7 (hc : c = 0 → s.1 = []) (z : Option AM.Obj) : ∃ code, blkFO = some code ∧
    Tells (Goes (blkFP z ({ k := k, st := st, co := (fx 4 s).1 }, (fx 4 s).2))) X (evT X) 14 0 code (feFr 7) [z, some (rdO c 1 1 s), some (cmO { k := k, st := st } (.ro 0 .pn 0))] := by
  refine ⟨_, rfl, ?_⟩
  have hF := fixF3 (N := 4) (n := 4) rfl hc (by omega) (by omega) z (some (cmO { k := k, st := st } (.ro 0 .pn 0)))
  have w := fx_lt (n := 4) s
  have w4 : IntKind.u32.wrap ((fx 4 s).1 : Nat) = ((fx 4 s).1 : Nat) := wrap_u32 (by omega) (by omega)
  refine Tells.of (o := ⟨.normal, [(2, .ptr 0 0 0 0), (4, .ptr 1 0 0 0), (5, .ptr 2 0 0 0)], [z, some (rdO c 1 1 (fx 4 s).2), some (cmO { k := k, st := st, co := (fx 4 s).1 } (.ro 0 .pn 0))]⟩) ⟨0, ?_⟩ ⟨rfl, _, .ro 0 .pn 0, [], [], rfl, rfl, boxF.rd c _, .inl ⟨rfl, rfl⟩⟩
  generalize fx 4 s = r at *
  simp only [cmO, Cm.pay, Int.cast_ofNat_Int] at hF
  simp (maxSteps := 2000000) -implicitDefEqProofs [-getElem?_pos, List.getElem?_cons_zero, List.getElem?_cons_succ, exec, runOps, dstOk, wantedV, AM.step, evalT, evalO, evalArgs, evalParts, getF, putF, afterRegion, assignV, boxOf, newBox, hasIdsP, keepF, ofVal, ofCell, plen, pesz, callV, builtinV, lenV, binV, unV, arith, shiftI, loadV, storeV, putV, indexAddrV, live, upd, pget, pset, psetA, pagg, retag, retagP, byteAV, freezeP, freezeV, joinTags, joinTag, tags, ids, scalar, cellsLen, eqV, convV, faV, fvV, shiftBy, shiftRo, feFr, rdO, cmO, Cm.pay, hF, w4]

set_option maxRecDepth 100000 in
theorem stF8 (z : Option AM.Obj) : ∃ code, stFO = some code ∧
    Run X (evT X) 14 0 code (feFr 8) [z, some (rdO c 1 1 s), some (cmO { k := k } (.ro 0 .pn 0))] ⟨.normal, feFr 8 ++ [(26, .bool false)], [z, some (rdO c 1 1 s), some (cmO { k := k } (.ro 0 .pn 0))]⟩ := by
  refine ⟨_, rfl, 0, ?_⟩
  simp (maxSteps := 2000000) -implicitDefEqProofs [-getElem?_pos, List.getElem?_cons_zero, List.getElem?_cons_succ, exec, runOps, dstOk, wantedV, AM.step, evalT, evalO, evalArgs, evalParts, getF, putF, afterRegion, assignV, boxOf, newBox, hasIdsP, keepF, ofVal, ofCell, plen, pesz, callV, builtinV, lenV, binV, unV, arith, shiftI, loadV, storeV, putV, indexAddrV, live, upd, pget, pset, psetA, pagg, retag, retagP, byteAV, freezeP, freezeV, joinTags, joinTag, tags, ids, scalar, cellsLen, eqV, convV, faV, fvV, shiftBy, shiftRo, feFr]

set_option maxRecDepth 100000 in
theorem blkF8 (hb : s.1.length ≤ 1000000) (z : Option AM.Obj) : ∃ code, blkFO = some code ∧
    Tells (Goes (blkFP z ({ k := k, st := st, dat := rsF s }, rsS s))) X (evT X) 14 0 code (feFr 8 ++ [(26, .bool false)]) [z, some (rdO c 1 1 s), some (cmO { k := k, st := st } (.ro 0 .pn 0))] := by
  refine ⟨_, rfl, ?_⟩
  obtain ⟨ob, hw, hR⟩ := restF3 c hb z (some (cmO { k := k, st := st } (.ro 0 .pn 0)))
  have hbx := boxF.rs c s
  generalize rsO c 1 s = bx at *
  generalize rsF s = l at *
  generalize rsS s = s' at *
  refine Tells.of (o := ⟨.normal, [(2, .ptr 0 0 0 0), (4, .ptr 1 0 0 0), (5, .ptr 2 0 0 0)], [z, some bx, some (cmO { k := k, st := st, dat := l } (.sl 3 0 l.length 0)), some ob]⟩) ⟨0, ?_⟩ ⟨rfl, _, .sl 3 0 l.length 0, [some ob], [], rfl, rfl, hbx, .inr ⟨3, ob, rfl, by omega, rfl, hw⟩⟩
  have hg := hw.g
  have hp := hw.p
  simp only [cmO, Cm.pay, Int.cast_ofNat_Int] at hR
  simp (maxSteps := 2000000) -implicitDefEqProofs [-getElem?_pos, List.getElem?_cons_zero, List.getElem?_cons_succ, exec, runOps, dstOk, wantedV, AM.step, evalT, evalO, evalArgs, evalParts, getF, putF, afterRegion, assignV, boxOf, newBox, hasIdsP, keepF, ofVal, ofCell, plen, pesz, callV, builtinV, lenV, binV, unV, arith, shiftI, loadV, storeV, putV, indexAddrV, live, upd, pget, pset, psetA, pagg, retag, retagP, byteAV, freezeP, freezeV, joinTags, joinTag, tags, ids, scalar, cellsLen, eqV, convV, faV, fvV, shiftBy, shiftRo, feFr, rdO, cmO, Cm.pay, hR, hg, hp, readSl, psub]

end

end Go.Proofs.Ytmdciglfpedhgaa
