/- Walks: the document's column read. -/
import Derived.Test.YtkgchoknkakcgaaP8
import Derived.Test.YtkgchoknkakcgaaF4
namespace Go.Proofs.Ytkgchoknkakcgaa
open Go.AM
set_option linter.unusedSimpArgs false
set_option linter.unusedVariables false

/-- a column's text off what is left, as the document reads it -/
def rx (s : St) : List UInt8 × St := ((rtF s).1, ms (decide (255 < (rtF s).1.length)) (rtF s).2)

theorem fwrong_ev {H : AM.Heap} {o c t tg : Nat} {s : St} {bad : Bool} (ho : H[o]? = some (some (rdO c t tg s))) (hj : joinTags (tagsOb (rdO c t tg s)) = some t) :
    evT X 24 [.ptr o 0 0 0, .bool bad] H = some (.tup [], upd H o (some (rdO c t t (ms bad s)))) :=
  wrong_ev (p := .pb s.1) (l := s.1) (e := s.2) ho (.inl rfl) hj

theorem fdone_ev {H : AM.Heap} {o c t tg : Nat} {s : St} (ho : H[o]? = some (some (rdO c t tg s))) (hj : joinTags (tagsOb (rdO c t tg s)) = some t) :
    evT X 30 [.ptr o 0 0 0] H = some (.int .i64 (ms (decide (0 < s.1.length)) s).2, upd H o (some (rdO c t t (ms (decide (0 < s.1.length)) s)))) :=
  doneF_ev (p := .pb s.1) (l := s.1) (e := s.2) ho (.inl rfl) hj

theorem jt0 (c t : Nat) (s : St) : joinTags (tagsOb (rdO c t 0 s)) = some t := by
  simp [tagsOb, rdO, tags, tagsL, joinTags, joinTag]; omega

section
variable (c t : Nat) (s : St)

set_option maxRecDepth 100000 in
theorem rtext_code (hc : c = 0 → s.1 = []) (hb : s.1.length ≤ 90000000) : ∃ code, Try.f25.body = some code ∧
    Run X (evT X) 25 1 code [(0, .ptr 0 0 0 0)] [some (rdO c t t s)] ⟨.ret, [(2, .str (rx s).1)], [some (rdO c t t (rx s).2)]⟩ := by
  refine ⟨_, rfl, 0, ?_⟩
  have hT := ftext_ev (H := [some (rdO c t t s)]) (o := 0) rfl (jt c t s) hc hb
  have hW := fun bad => fwrong_ev (H := [some (rdO c t t (rtF s).2)]) (o := 0) (bad := bad) rfl (jt c t (rtF s).2)
  unfold rx
  generalize rtF s = r at *
  have hd : decide ((255 : Int) < (r.1.length : Int)) = decide (255 < r.1.length) := by
    rw [decide_eq_decide]; omega
  simp only [rdO] at hT hW
  simp (maxSteps := 2000000) -implicitDefEqProofs [-getElem?_pos, List.getElem?_cons_zero, List.getElem?_cons_succ, exec, runOps, dstOk, wantedV, AM.step, evalT, evalO, evalArgs, evalParts, getF, putF, afterRegion, assignV, boxOf, newBox, hasIdsP, keepF, ofVal, ofCell, plen, pesz, callV, builtinV, lenV, binV, unV, arith, shiftI, loadV, storeV, putV, indexAddrV, live, upd, pget, pset, psetA, pagg, retag, retagP, byteAV, freezeP, freezeV, joinTags, joinTag, tags, ids, scalar, cellsLen, eqV, convV, faV, fvV, shiftBy, shiftRo, rdO, hT, hW, hd]

end

theorem rtext_ev {H : AM.Heap} {o c t tg : Nat} {s : St} (ho : H[o]? = some (some (rdO c t tg s))) (hj : joinTags (tagsOb (rdO c t tg s)) = some t) (hc : c = 0 → s.1 = []) (hb : s.1.length ≤ 90000000) :
    evT X 25 [.ptr o 0 0 0] H = some (.str (rx s).1, upd H o (some (rdO c t t (rx s).2))) := by
  obtain ⟨code, hcode, hr⟩ := rtext_code c 2 s hc hb
  have := Ev1.box (C := X) (f := 25) (H := H) (o := o) (g := 0) (ob := rdO c t tg s) (ob1 := rdO c 2 2 (rx s).2) (xs := []) (ys := []) (n := 2) (t := t) (rest := [])
    (l := [.str (rx s).1]) (evT_below X) Try.func25 hcode rfl ho rfl rfl (args_nil 1) rfl rfl rfl (by simp [gtag]) hj hr (.inr rfl) rfl rfl rfl rfl rfl
    (by intro k hk; right; simpa [resultV, tags, tagsOb, rdO, tagsL] using hk) (.inr rfl)
  exact evT_eq (by simpa [rdO, ren, renL, bk, resultV] using this)

theorem Ok.rtF {c : Nat} {s : St} (h : Ok c s) : Ok c (rtF s).2 := ⟨rtF_nil h.1, Nat.le_trans (rtF_len s) h.2⟩
theorem Ok.rx {c : Nat} {s : St} (h : Ok c s) : Ok c (rx s).2 := ⟨rtF_nil h.1, Nat.le_trans (rtF_len s) h.2⟩

def p0 (b : List UInt8) := rtF (b, 0)
def p1 (b : List UInt8) := rx (ms ((p0 b).1 != defC) (p0 b).2)
def p2 (b : List UInt8) := rx (p1 b).2
def p3 (b : List UInt8) := rx (p2 b).2
def p4 (b : List UInt8) := rx (p3 b).2
def p5 (b : List UInt8) := rx (p4 b).2
def p6 (b : List UInt8) := fx 1 (p5 b).2
def p7 (b : List UInt8) := fx 2 (ms ((p6 b).1 != 12) (p6 b).2)
def p8 (b : List UInt8) := fx 4 (p7 b).2
def p9 (b : List UInt8) := fx 1 (p8 b).2
def p10 (b : List UInt8) := fx 2 (ms (!kn (p9 b).1) (p9 b).2)
def p11 (b : List UInt8) := fx 1 (p10 b).2
def pz (b : List UInt8) : St := zrS 2 (p11 b).2
def pf (b : List UInt8) : St := ms (decide (0 < (pz b).1.length)) (pz b)
def pC (b : List UInt8) : Co := ⟨(p1 b).1, (p2 b).1, (p3 b).1, (p4 b).1, (p5 b).1, (p7 b).1, (p8 b).1, (p9 b).1, (p10 b).1, (p11 b).1⟩
/-- a column read, as the document says -/
def rrdC (b : List UInt8) : Co × Int := if (pf b).2 ≠ 0 then ({}, (pf b).2) else (pC b, 0)

theorem bdF (c : Nat) (b : List UInt8) (t : Nat) : buildV X 56 [(0, .ro c (.pb b) t)] = some (.agg (.pc [.ro c (.pb b) t, .int .i64 0])) := by kernel_rfl
theorem bdC1 (s : List UInt8) : buildV X 28 [(0, .str s)] = some (.agg (.pc [.str s, .str [], .str [], .str [], .str [], .int .u16 0, .int .u32 0, .int .u8 0, .int .u16 0, .int .u8 0])) := by kernel_rfl

def s3Fr : AM.Frame := [(2, .ptr 0 0 0 0), (4, .ptr 1 0 0 0), (6, .ptr 2 0 0 0)]

section
variable (c : Nat) (b : List UInt8)

set_option maxRecDepth 100000 in
theorem rread_code (hc : c = 0 → b = []) (hb : b.length ≤ 1000000) : ∃ code, Try.f8.body = some code ∧
    Tells (Rets fun fr H => getF fr 2 = .ptr 0 0 0 0 ∧ getF fr 3 = .int .i64 (rrdC b).2 ∧ H[0]? = some (some (coO (rrdC b).1))) X (evT X) 8 0 code [(0, .ro c (.pb b) 1)] [] := by
  refine ⟨_, rfl, ?_⟩
  have k0 : Ok c (b, 0) := ⟨hc, hb⟩
  have k1 : Ok c (ms ((p0 b).1 != defC) (p0 b).2) := (k0.rtF).ms
  have k2 : Ok c (p1 b).2 := k1.rx
  have k3 : Ok c (p2 b).2 := k2.rx
  have k4 : Ok c (p3 b).2 := k3.rx
  have k5 : Ok c (p4 b).2 := k4.rx
  have k6 : Ok c (p5 b).2 := k5.rx
  have k7 : Ok c (ms ((p6 b).1 != 12) (p6 b).2) := (k6.fx (n := 1)).ms
  have k8 : Ok c (p7 b).2 := k7.fx (n := 2)
  have k9 : Ok c (p8 b).2 := k8.fx (n := 4)
  have k10 : Ok c (ms (!kn (p9 b).1) (p9 b).2) := (k9.fx (n := 1)).ms
  have k11 : Ok c (p10 b).2 := k10.fx (n := 2)
  have k12 : Ok c (p11 b).2 := k11.fx (n := 1)
  apply Tells.seq (fr' := [(0, .ro c (.pb b) 1), (2, .ptr 0 0 0 0)]) (H' := [some (coO {})])
  · (refine ⟨0, ?_⟩; simp (maxSteps := 2000000) -implicitDefEqProofs [-getElem?_pos, List.getElem?_cons_zero, List.getElem?_cons_succ, exec, runOps, dstOk, wantedV, AM.step, evalT, evalO, evalArgs, evalParts, getF, putF, afterRegion, assignV, boxOf, newBox, hasIdsP, keepF, ofVal, ofCell, plen, pesz, callV, builtinV, lenV, binV, unV, arith, shiftI, loadV, storeV, putV, indexAddrV, live, upd, pget, pset, psetA, pagg, retag, retagP, byteAV, freezeP, freezeV, joinTags, joinTag, tags, ids, scalar, cellsLen, eqV, convV, faV, fvV, shiftBy, shiftRo, coO, Co.pay])
  apply Tells.seq (fr' := [(2, .ptr 0 0 0 0), (4, .ptr 1 0 0 0)]) (H' := [some (coO {}), some ⟨.pc [.ro c (.pb b) 1, .int .i64 0], 0, some 2, 1, false, true, 0⟩])
  · (refine ⟨0, ?_⟩; simp (maxSteps := 2000000) -implicitDefEqProofs [-getElem?_pos, List.getElem?_cons_zero, List.getElem?_cons_succ, exec, runOps, dstOk, wantedV, AM.step, evalT, evalO, evalArgs, evalParts, getF, putF, afterRegion, assignV, boxOf, newBox, hasIdsP, keepF, ofVal, ofCell, plen, pesz, callV, builtinV, lenV, binV, unV, arith, shiftI, loadV, storeV, putV, indexAddrV, live, upd, pget, pset, psetA, pagg, retag, retagP, byteAV, freezeP, freezeV, joinTags, joinTag, tags, ids, scalar, cellsLen, eqV, convV, faV, fvV, shiftBy, shiftRo, bdF])
  have hT0 := ftext_ev (H := [some (coO {}), some (rdO c 1 0 (b, 0))]) (o := 1) rfl (jt0 c 1 _) k0.1 (by have := k0.2; omega)
  have hM0 := fwrong_ev (H := [some (coO {}), some (rdO c 1 1 (p0 b).2)]) (o := 1) (bad := (p0 b).1 != defC) rfl (jt c 1 _)
  apply Tells.seq (fr' := [(2, .ptr 0 0 0 0), (4, .ptr 1 0 0 0), (5, .str (p0 b).1)]) (H' := [some (coO {}), some (rdO c 1 1 (p0 b).2)])
  · unfold p0 at *
    generalize rtF (b, 0) = r at *
    simp only [rdO, defC] at hT0
    (refine ⟨0, ?_⟩; simp (maxSteps := 2000000) -implicitDefEqProofs [-getElem?_pos, List.getElem?_cons_zero, List.getElem?_cons_succ, exec, runOps, dstOk, wantedV, AM.step, evalT, evalO, evalArgs, evalParts, getF, putF, afterRegion, assignV, boxOf, newBox, hasIdsP, keepF, ofVal, ofCell, plen, pesz, callV, builtinV, lenV, binV, unV, arith, shiftI, loadV, storeV, putV, indexAddrV, live, upd, pget, pset, psetA, pagg, retag, retagP, byteAV, freezeP, freezeV, joinTags, joinTag, tags, ids, scalar, cellsLen, eqV, convV, faV, fvV, shiftBy, shiftRo, rdO, hT0])
  apply Tells.seq (fr' := [(2, .ptr 0 0 0 0), (4, .ptr 1 0 0 0)]) (H' := [some (coO {}), some (rdO c 1 1 (ms ((p0 b).1 != defC) (p0 b).2))])
  · have hbn : ∀ l m : List UInt8, (!(l == m)) = (l != m) := fun l m => rfl
    generalize hs : ms ((p0 b).1 != defC) (p0 b).2 = s at *
    generalize (p0 b).1 = v at *
    simp only [rdO, defC] at hM0
    (refine ⟨0, ?_⟩; simp (maxSteps := 2000000) -implicitDefEqProofs [-getElem?_pos, List.getElem?_cons_zero, List.getElem?_cons_succ, exec, runOps, dstOk, wantedV, AM.step, evalT, evalO, evalArgs, evalParts, getF, putF, afterRegion, assignV, boxOf, newBox, hasIdsP, keepF, ofVal, ofCell, plen, pesz, callV, builtinV, lenV, binV, unV, arith, shiftI, loadV, storeV, putV, indexAddrV, live, upd, pget, pset, psetA, pagg, retag, retagP, byteAV, freezeP, freezeV, joinTags, joinTag, tags, ids, scalar, cellsLen, eqV, convV, faV, fvV, shiftBy, shiftRo, rdO, hM0, strOp, hbn])
  clear hT0 hM0
  have hT := rtext_ev (H := [some (coO {}), some (rdO c 1 1 (ms ((p0 b).1 != defC) (p0 b).2))]) (o := 1) rfl (jt c 1 _) k1.1 (by have := k1.2; omega)
  apply Tells.seq (fr' := s3Fr) (H' := [some (coO {}), some (rdO c 1 1 (p1 b).2), some (coO { s := ((p1 b).1) : Co })])
  · unfold p1
    generalize (ms ((p0 b).1 != defC) (p0 b).2) = s at *
    generalize rx s = r at *
    simp only [rdO, coO, Co.pay, Int.cast_ofNat_Int] at hT
    (refine ⟨0, ?_⟩; simp (maxSteps := 2000000) -implicitDefEqProofs [-getElem?_pos, List.getElem?_cons_zero, List.getElem?_cons_succ, exec, runOps, dstOk, wantedV, AM.step, evalT, evalO, evalArgs, evalParts, getF, putF, afterRegion, assignV, boxOf, newBox, hasIdsP, keepF, ofVal, ofCell, plen, pesz, callV, builtinV, lenV, binV, unV, arith, shiftI, loadV, storeV, putV, indexAddrV, live, upd, pget, pset, psetA, pagg, retag, retagP, byteAV, freezeP, freezeV, joinTags, joinTag, tags, ids, scalar, cellsLen, eqV, convV, faV, fvV, shiftBy, shiftRo, rdO, s3Fr, coO, Co.pay, hT, bdC1, flatCells, splice, scalars, scalar, mkCo])
  clear hT
  have hT := rtext_ev (H := [some (coO {}), some (rdO c 1 1 (p1 b).2), some (coO { s := ((p1 b).1) : Co })]) (o := 1) rfl (jt c 1 _) k2.1 (by have := k2.2; omega)
  apply Tells.seq (fr' := s3Fr) (H' := [some (coO {}), some (rdO c 1 1 (p2 b).2), some (coO { s := ((p1 b).1), t := ((p2 b).1) : Co })])
  · unfold p2
    generalize (p1 b).2 = s at *
    generalize rx s = r at *
    generalize (p1 b).1 = t1 at *
    simp only [rdO, coO, Co.pay, Int.cast_ofNat_Int] at hT
    (refine ⟨0, ?_⟩; simp (maxSteps := 2000000) -implicitDefEqProofs [-getElem?_pos, List.getElem?_cons_zero, List.getElem?_cons_succ, exec, runOps, dstOk, wantedV, AM.step, evalT, evalO, evalArgs, evalParts, getF, putF, afterRegion, assignV, boxOf, newBox, hasIdsP, keepF, ofVal, ofCell, plen, pesz, callV, builtinV, lenV, binV, unV, arith, shiftI, loadV, storeV, putV, indexAddrV, live, upd, pget, pset, psetA, pagg, retag, retagP, byteAV, freezeP, freezeV, joinTags, joinTag, tags, ids, scalar, cellsLen, eqV, convV, faV, fvV, shiftBy, shiftRo, rdO, s3Fr, coO, Co.pay, hT, bdC1, flatCells, splice, scalars, scalar, mkCo])
  clear hT
  have hT := rtext_ev (H := [some (coO {}), some (rdO c 1 1 (p2 b).2), some (coO { s := ((p1 b).1), t := ((p2 b).1) : Co })]) (o := 1) rfl (jt c 1 _) k3.1 (by have := k3.2; omega)
  apply Tells.seq (fr' := s3Fr) (H' := [some (coO {}), some (rdO c 1 1 (p3 b).2), some (coO { s := ((p1 b).1), t := ((p2 b).1), ot := ((p3 b).1) : Co })])
  · unfold p3
    generalize (p2 b).2 = s at *
    generalize rx s = r at *
    generalize (p1 b).1 = t1 at *
    generalize (p2 b).1 = t2 at *
    simp only [rdO, coO, Co.pay, Int.cast_ofNat_Int] at hT
    (refine ⟨0, ?_⟩; simp (maxSteps := 2000000) -implicitDefEqProofs [-getElem?_pos, List.getElem?_cons_zero, List.getElem?_cons_succ, exec, runOps, dstOk, wantedV, AM.step, evalT, evalO, evalArgs, evalParts, getF, putF, afterRegion, assignV, boxOf, newBox, hasIdsP, keepF, ofVal, ofCell, plen, pesz, callV, builtinV, lenV, binV, unV, arith, shiftI, loadV, storeV, putV, indexAddrV, live, upd, pget, pset, psetA, pagg, retag, retagP, byteAV, freezeP, freezeV, joinTags, joinTag, tags, ids, scalar, cellsLen, eqV, convV, faV, fvV, shiftBy, shiftRo, rdO, s3Fr, coO, Co.pay, hT, bdC1, flatCells, splice, scalars, scalar, mkCo])
  clear hT
  have hT := rtext_ev (H := [some (coO {}), some (rdO c 1 1 (p3 b).2), some (coO { s := ((p1 b).1), t := ((p2 b).1), ot := ((p3 b).1) : Co })]) (o := 1) rfl (jt c 1 _) k4.1 (by have := k4.2; omega)
  apply Tells.seq (fr' := s3Fr) (H' := [some (coO {}), some (rdO c 1 1 (p4 b).2), some (coO { s := ((p1 b).1), t := ((p2 b).1), ot := ((p3 b).1), n := ((p4 b).1) : Co })])
  · unfold p4
    generalize (p3 b).2 = s at *
    generalize rx s = r at *
    generalize (p1 b).1 = t1 at *
    generalize (p2 b).1 = t2 at *
    generalize (p3 b).1 = t3 at *
    simp only [rdO, coO, Co.pay, Int.cast_ofNat_Int] at hT
    (refine ⟨0, ?_⟩; simp (maxSteps := 2000000) -implicitDefEqProofs [-getElem?_pos, List.getElem?_cons_zero, List.getElem?_cons_succ, exec, runOps, dstOk, wantedV, AM.step, evalT, evalO, evalArgs, evalParts, getF, putF, afterRegion, assignV, boxOf, newBox, hasIdsP, keepF, ofVal, ofCell, plen, pesz, callV, builtinV, lenV, binV, unV, arith, shiftI, loadV, storeV, putV, indexAddrV, live, upd, pget, pset, psetA, pagg, retag, retagP, byteAV, freezeP, freezeV, joinTags, joinTag, tags, ids, scalar, cellsLen, eqV, convV, faV, fvV, shiftBy, shiftRo, rdO, s3Fr, coO, Co.pay, hT, bdC1, flatCells, splice, scalars, scalar, mkCo])
  clear hT
  have hT := rtext_ev (H := [some (coO {}), some (rdO c 1 1 (p4 b).2), some (coO { s := ((p1 b).1), t := ((p2 b).1), ot := ((p3 b).1), n := ((p4 b).1) : Co })]) (o := 1) rfl (jt c 1 _) k5.1 (by have := k5.2; omega)
  apply Tells.seq (fr' := s3Fr) (H' := [some (coO {}), some (rdO c 1 1 (p5 b).2), some (coO { s := ((p1 b).1), t := ((p2 b).1), ot := ((p3 b).1), n := ((p4 b).1), on := ((p5 b).1) : Co })])
  · unfold p5
    generalize (p4 b).2 = s at *
    generalize rx s = r at *
    generalize (p1 b).1 = t1 at *
    generalize (p2 b).1 = t2 at *
    generalize (p3 b).1 = t3 at *
    generalize (p4 b).1 = t4 at *
    simp only [rdO, coO, Co.pay, Int.cast_ofNat_Int] at hT
    (refine ⟨0, ?_⟩; simp (maxSteps := 2000000) -implicitDefEqProofs [-getElem?_pos, List.getElem?_cons_zero, List.getElem?_cons_succ, exec, runOps, dstOk, wantedV, AM.step, evalT, evalO, evalArgs, evalParts, getF, putF, afterRegion, assignV, boxOf, newBox, hasIdsP, keepF, ofVal, ofCell, plen, pesz, callV, builtinV, lenV, binV, unV, arith, shiftI, loadV, storeV, putV, indexAddrV, live, upd, pget, pset, psetA, pagg, retag, retagP, byteAV, freezeP, freezeV, joinTags, joinTag, tags, ids, scalar, cellsLen, eqV, convV, faV, fvV, shiftBy, shiftRo, rdO, s3Fr, coO, Co.pay, hT, bdC1, flatCells, splice, scalars, scalar, mkCo])
  clear hT
  have hF6 := byteF_ev (H := [some (coO {}), some (rdO c 1 1 (p5 b).2), some (coO ⟨(p1 b).1, (p2 b).1, (p3 b).1, (p4 b).1, (p5 b).1, 0, 0, 0, 0, 0⟩)]) (o := 1) rfl (jt c 1 _) k6.1
  have hM6 := fwrong_ev (H := [some (coO {}), some (rdO c 1 1 (p6 b).2), some (coO ⟨(p1 b).1, (p2 b).1, (p3 b).1, (p4 b).1, (p5 b).1, 0, 0, 0, 0, 0⟩)]) (o := 1) (bad := (p6 b).1 != 12) rfl (jt c 1 _)
  apply Tells.seq (fr' := s3Fr ++ [(7, .int .u8 ((p6 b).1 : Nat))]) (H' := [some (coO {}), some (rdO c 1 1 (p6 b).2), some (coO ⟨(p1 b).1, (p2 b).1, (p3 b).1, (p4 b).1, (p5 b).1, 0, 0, 0, 0, 0⟩)])
  · unfold p6 at *
    generalize fx 1 (p5 b).2 = r at *
    generalize (p1 b).1 = t1 at *
    generalize (p2 b).1 = t2 at *
    generalize (p3 b).1 = t3 at *
    generalize (p4 b).1 = t4 at *
    generalize (p5 b).1 = t5 at *
    generalize (p5 b).2 = s5 at *
    simp only [rdO, coO, Co.pay, Int.cast_ofNat_Int] at hF6
    (refine ⟨0, ?_⟩; simp (maxSteps := 2000000) -implicitDefEqProofs [-getElem?_pos, List.getElem?_cons_zero, List.getElem?_cons_succ, exec, runOps, dstOk, wantedV, AM.step, evalT, evalO, evalArgs, evalParts, getF, putF, afterRegion, assignV, boxOf, newBox, hasIdsP, keepF, ofVal, ofCell, plen, pesz, callV, builtinV, lenV, binV, unV, arith, shiftI, loadV, storeV, putV, indexAddrV, live, upd, pget, pset, psetA, pagg, retag, retagP, byteAV, freezeP, freezeV, joinTags, joinTag, tags, ids, scalar, cellsLen, eqV, convV, faV, fvV, shiftBy, shiftRo, rdO, s3Fr, coO, Co.pay, hF6])
  apply Tells.seq (fr' := s3Fr) (H' := [some (coO {}), some (rdO c 1 1 (ms ((p6 b).1 != 12) (p6 b).2)), some (coO ⟨(p1 b).1, (p2 b).1, (p3 b).1, (p4 b).1, (p5 b).1, 0, 0, 0, 0, 0⟩)])
  · have hbn : (((p6 b).1 : Int) != 12) = ((p6 b).1 != 12) := by rw [Bool.eq_iff_iff]; simp; omega
    generalize ms ((p6 b).1 != 12) (p6 b).2 = s at *
    generalize (p1 b).1 = t1 at *
    generalize (p2 b).1 = t2 at *
    generalize (p3 b).1 = t3 at *
    generalize (p4 b).1 = t4 at *
    generalize (p5 b).1 = t5 at *
    generalize (p6 b).2 = s6 at *
    generalize ((p6 b).1 != 12) = bb at *
    generalize (p6 b).1 = v6 at *
    simp only [rdO, coO, Co.pay, Int.cast_ofNat_Int] at hM6
    (refine ⟨0, ?_⟩; simp (maxSteps := 2000000) -implicitDefEqProofs [-getElem?_pos, List.getElem?_cons_zero, List.getElem?_cons_succ, exec, runOps, dstOk, wantedV, AM.step, evalT, evalO, evalArgs, evalParts, getF, putF, afterRegion, assignV, boxOf, newBox, hasIdsP, keepF, ofVal, ofCell, plen, pesz, callV, builtinV, lenV, binV, unV, arith, shiftI, loadV, storeV, putV, indexAddrV, live, upd, pget, pset, psetA, pagg, retag, retagP, byteAV, freezeP, freezeV, joinTags, joinTag, tags, ids, scalar, cellsLen, eqV, convV, faV, fvV, shiftBy, shiftRo, rdO, s3Fr, coO, Co.pay, hM6, hbn])
  clear hF6 hM6
  have hF := fixedF_ev (N := 2) (n := 2) (H := [some (coO {}), some (rdO c 1 1 (ms ((p6 b).1 != 12) (p6 b).2)), some (coO ⟨(p1 b).1, (p2 b).1, (p3 b).1, (p4 b).1, (p5 b).1, 0, 0, 0, 0, 0⟩)]) (o := 1) rfl rfl (jt c 1 _) k7.1 (by omega) (by omega)
  apply Tells.seq (fr' := s3Fr) (H' := [some (coO {}), some (rdO c 1 1 (p7 b).2), some (coO ⟨(p1 b).1, (p2 b).1, (p3 b).1, (p4 b).1, (p5 b).1, (p7 b).1, 0, 0, 0, 0⟩)])
  · unfold p7
    have hlt := fx_lt (n := 2) (ms ((p6 b).1 != 12) (p6 b).2)
    generalize (ms ((p6 b).1 != 12) (p6 b).2) = s at *
    generalize fx 2 s = r at *
    generalize (p1 b).1 = t1 at *
    generalize (p2 b).1 = t2 at *
    generalize (p3 b).1 = t3 at *
    generalize (p4 b).1 = t4 at *
    generalize (p5 b).1 = t5 at *
    have w : IntKind.u16.wrap (r.1 : Nat) = (r.1 : Nat) := wrap_u16 (by omega) (by omega)
    simp only [rdO, coO, Co.pay, Int.cast_ofNat_Int] at hF
    (refine ⟨0, ?_⟩; simp (maxSteps := 2000000) -implicitDefEqProofs [-getElem?_pos, List.getElem?_cons_zero, List.getElem?_cons_succ, exec, runOps, dstOk, wantedV, AM.step, evalT, evalO, evalArgs, evalParts, getF, putF, afterRegion, assignV, boxOf, newBox, hasIdsP, keepF, ofVal, ofCell, plen, pesz, callV, builtinV, lenV, binV, unV, arith, shiftI, loadV, storeV, putV, indexAddrV, live, upd, pget, pset, psetA, pagg, retag, retagP, byteAV, freezeP, freezeV, joinTags, joinTag, tags, ids, scalar, cellsLen, eqV, convV, faV, fvV, shiftBy, shiftRo, rdO, s3Fr, coO, Co.pay, hF, w])
  clear hF
  have hF := fixedF_ev (N := 4) (n := 4) (H := [some (coO {}), some (rdO c 1 1 (p7 b).2), some (coO ⟨(p1 b).1, (p2 b).1, (p3 b).1, (p4 b).1, (p5 b).1, (p7 b).1, 0, 0, 0, 0⟩)]) (o := 1) rfl rfl (jt c 1 _) k8.1 (by omega) (by omega)
  apply Tells.seq (fr' := s3Fr) (H' := [some (coO {}), some (rdO c 1 1 (p8 b).2), some (coO ⟨(p1 b).1, (p2 b).1, (p3 b).1, (p4 b).1, (p5 b).1, (p7 b).1, (p8 b).1, 0, 0, 0⟩)])
  · unfold p8
    have hlt := fx_lt (n := 4) (p7 b).2
    generalize (p7 b).2 = s at *
    generalize fx 4 s = r at *
    generalize (p1 b).1 = t1 at *
    generalize (p2 b).1 = t2 at *
    generalize (p3 b).1 = t3 at *
    generalize (p4 b).1 = t4 at *
    generalize (p5 b).1 = t5 at *
    generalize (p7 b).1 = v7 at *
    have w : IntKind.u32.wrap (r.1 : Nat) = (r.1 : Nat) := wrap_u32 (by omega) (by omega)
    simp only [rdO, coO, Co.pay, Int.cast_ofNat_Int] at hF
    (refine ⟨0, ?_⟩; simp (maxSteps := 2000000) -implicitDefEqProofs [-getElem?_pos, List.getElem?_cons_zero, List.getElem?_cons_succ, exec, runOps, dstOk, wantedV, AM.step, evalT, evalO, evalArgs, evalParts, getF, putF, afterRegion, assignV, boxOf, newBox, hasIdsP, keepF, ofVal, ofCell, plen, pesz, callV, builtinV, lenV, binV, unV, arith, shiftI, loadV, storeV, putV, indexAddrV, live, upd, pget, pset, psetA, pagg, retag, retagP, byteAV, freezeP, freezeV, joinTags, joinTag, tags, ids, scalar, cellsLen, eqV, convV, faV, fvV, shiftBy, shiftRo, rdO, s3Fr, coO, Co.pay, hF, w])
  clear hF
  have hF := byteF_ev (H := [some (coO {}), some (rdO c 1 1 (p8 b).2), some (coO ⟨(p1 b).1, (p2 b).1, (p3 b).1, (p4 b).1, (p5 b).1, (p7 b).1, (p8 b).1, 0, 0, 0⟩)]) (o := 1) rfl (jt c 1 _) k9.1
  apply Tells.seq (fr' := s3Fr) (H' := [some (coO {}), some (rdO c 1 1 (p9 b).2), some (coO ⟨(p1 b).1, (p2 b).1, (p3 b).1, (p4 b).1, (p5 b).1, (p7 b).1, (p8 b).1, (p9 b).1, 0, 0⟩)])
  · unfold p9
    have hlt := fx_lt (n := 1) (p8 b).2
    generalize (p8 b).2 = s at *
    generalize fx 1 s = r at *
    generalize (p1 b).1 = t1 at *
    generalize (p2 b).1 = t2 at *
    generalize (p3 b).1 = t3 at *
    generalize (p4 b).1 = t4 at *
    generalize (p5 b).1 = t5 at *
    generalize (p7 b).1 = v7 at *
    generalize (p8 b).1 = v8 at *
    have w : IntKind.u8.wrap (r.1 : Nat) = (r.1 : Nat) := wrap_u8 (by omega) (by omega)
    simp only [rdO, coO, Co.pay, Int.cast_ofNat_Int] at hF
    (refine ⟨0, ?_⟩; simp (maxSteps := 2000000) -implicitDefEqProofs [-getElem?_pos, List.getElem?_cons_zero, List.getElem?_cons_succ, exec, runOps, dstOk, wantedV, AM.step, evalT, evalO, evalArgs, evalParts, getF, putF, afterRegion, assignV, boxOf, newBox, hasIdsP, keepF, ofVal, ofCell, plen, pesz, callV, builtinV, lenV, binV, unV, arith, shiftI, loadV, storeV, putV, indexAddrV, live, upd, pget, pset, psetA, pagg, retag, retagP, byteAV, freezeP, freezeV, joinTags, joinTag, tags, ids, scalar, cellsLen, eqV, convV, faV, fvV, shiftBy, shiftRo, rdO, s3Fr, coO, Co.pay, hF, w])
  clear hF
  have hty : (p9 b).1 < 256 := fx_lt (n := 1) (p8 b).2
  have hK := fun H => rknown_ev hty H
  have hM9 := fwrong_ev (H := [some (coO {}), some (rdO c 1 1 (p9 b).2), some (coO ⟨(p1 b).1, (p2 b).1, (p3 b).1, (p4 b).1, (p5 b).1, (p7 b).1, (p8 b).1, (p9 b).1, 0, 0⟩)]) (o := 1) (bad := !kn (p9 b).1) rfl (jt c 1 _)
  apply Tells.seq (fr' := s3Fr) (H' := [some (coO {}), some (rdO c 1 1 (ms (!kn (p9 b).1) (p9 b).2)), some (coO ⟨(p1 b).1, (p2 b).1, (p3 b).1, (p4 b).1, (p5 b).1, (p7 b).1, (p8 b).1, (p9 b).1, 0, 0⟩)])
  · generalize ms (!kn (p9 b).1) (p9 b).2 = s at *
    generalize (p1 b).1 = t1 at *
    generalize (p2 b).1 = t2 at *
    generalize (p3 b).1 = t3 at *
    generalize (p4 b).1 = t4 at *
    generalize (p5 b).1 = t5 at *
    generalize (p7 b).1 = v7 at *
    generalize (p8 b).1 = v8 at *
    generalize (p9 b).2 = s9 at *
    generalize kn (p9 b).1 = kb at *
    generalize (p9 b).1 = v9 at *
    simp only [rdO, coO, Co.pay, Int.cast_ofNat_Int] at hM9
    (refine ⟨0, ?_⟩; simp (maxSteps := 2000000) -implicitDefEqProofs [-getElem?_pos, List.getElem?_cons_zero, List.getElem?_cons_succ, exec, runOps, dstOk, wantedV, AM.step, evalT, evalO, evalArgs, evalParts, getF, putF, afterRegion, assignV, boxOf, newBox, hasIdsP, keepF, ofVal, ofCell, plen, pesz, callV, builtinV, lenV, binV, unV, arith, shiftI, loadV, storeV, putV, indexAddrV, live, upd, pget, pset, psetA, pagg, retag, retagP, byteAV, freezeP, freezeV, joinTags, joinTag, tags, ids, scalar, cellsLen, eqV, convV, faV, fvV, shiftBy, shiftRo, rdO, s3Fr, coO, Co.pay, hK, hM9, unV])
  clear hM9 hK
  have hF := fixedF_ev (N := 2) (n := 2) (H := [some (coO {}), some (rdO c 1 1 (ms (!kn (p9 b).1) (p9 b).2)), some (coO ⟨(p1 b).1, (p2 b).1, (p3 b).1, (p4 b).1, (p5 b).1, (p7 b).1, (p8 b).1, (p9 b).1, 0, 0⟩)]) (o := 1) rfl rfl (jt c 1 _) k10.1 (by omega) (by omega)
  apply Tells.seq (fr' := s3Fr) (H' := [some (coO {}), some (rdO c 1 1 (p10 b).2), some (coO ⟨(p1 b).1, (p2 b).1, (p3 b).1, (p4 b).1, (p5 b).1, (p7 b).1, (p8 b).1, (p9 b).1, (p10 b).1, 0⟩)])
  · unfold p10
    have hlt := fx_lt (n := 2) (ms (!kn (p9 b).1) (p9 b).2)
    generalize (ms (!kn (p9 b).1) (p9 b).2) = s at *
    generalize fx 2 s = r at *
    generalize (p1 b).1 = t1 at *
    generalize (p2 b).1 = t2 at *
    generalize (p3 b).1 = t3 at *
    generalize (p4 b).1 = t4 at *
    generalize (p5 b).1 = t5 at *
    generalize (p7 b).1 = v7 at *
    generalize (p8 b).1 = v8 at *
    generalize (p9 b).1 = v9 at *
    have w : IntKind.u16.wrap (r.1 : Nat) = (r.1 : Nat) := wrap_u16 (by omega) (by omega)
    simp only [rdO, coO, Co.pay, Int.cast_ofNat_Int] at hF
    (refine ⟨0, ?_⟩; simp (maxSteps := 2000000) -implicitDefEqProofs [-getElem?_pos, List.getElem?_cons_zero, List.getElem?_cons_succ, exec, runOps, dstOk, wantedV, AM.step, evalT, evalO, evalArgs, evalParts, getF, putF, afterRegion, assignV, boxOf, newBox, hasIdsP, keepF, ofVal, ofCell, plen, pesz, callV, builtinV, lenV, binV, unV, arith, shiftI, loadV, storeV, putV, indexAddrV, live, upd, pget, pset, psetA, pagg, retag, retagP, byteAV, freezeP, freezeV, joinTags, joinTag, tags, ids, scalar, cellsLen, eqV, convV, faV, fvV, shiftBy, shiftRo, rdO, s3Fr, coO, Co.pay, hF, w])
  clear hF
  have hF := byteF_ev (H := [some (coO {}), some (rdO c 1 1 (p10 b).2), some (coO ⟨(p1 b).1, (p2 b).1, (p3 b).1, (p4 b).1, (p5 b).1, (p7 b).1, (p8 b).1, (p9 b).1, (p10 b).1, 0⟩)]) (o := 1) rfl (jt c 1 _) k11.1
  apply Tells.seq (fr' := s3Fr) (H' := [some (coO {}), some (rdO c 1 1 (p11 b).2), some (coO ⟨(p1 b).1, (p2 b).1, (p3 b).1, (p4 b).1, (p5 b).1, (p7 b).1, (p8 b).1, (p9 b).1, (p10 b).1, (p11 b).1⟩)])
  · unfold p11
    have hlt := fx_lt (n := 1) (p10 b).2
    generalize (p10 b).2 = s at *
    generalize fx 1 s = r at *
    generalize (p1 b).1 = t1 at *
    generalize (p2 b).1 = t2 at *
    generalize (p3 b).1 = t3 at *
    generalize (p4 b).1 = t4 at *
    generalize (p5 b).1 = t5 at *
    generalize (p7 b).1 = v7 at *
    generalize (p8 b).1 = v8 at *
    generalize (p9 b).1 = v9 at *
    generalize (p10 b).1 = v10 at *
    have w : IntKind.u8.wrap (r.1 : Nat) = (r.1 : Nat) := wrap_u8 (by omega) (by omega)
    simp only [rdO, coO, Co.pay, Int.cast_ofNat_Int] at hF
    (refine ⟨0, ?_⟩; simp (maxSteps := 2000000) -implicitDefEqProofs [-getElem?_pos, List.getElem?_cons_zero, List.getElem?_cons_succ, exec, runOps, dstOk, wantedV, AM.step, evalT, evalO, evalArgs, evalParts, getF, putF, afterRegion, assignV, boxOf, newBox, hasIdsP, keepF, ofVal, ofCell, plen, pesz, callV, builtinV, lenV, binV, unV, arith, shiftI, loadV, storeV, putV, indexAddrV, live, upd, pget, pset, psetA, pagg, retag, retagP, byteAV, freezeP, freezeV, joinTags, joinTag, tags, ids, scalar, cellsLen, eqV, convV, faV, fvV, shiftBy, shiftRo, rdO, s3Fr, coO, Co.pay, hF, w])
  clear hF
  have hF := zeros_ev (N := 2) (n := 2) (H := [some (coO {}), some (rdO c 1 1 (p11 b).2), some (coO ⟨(p1 b).1, (p2 b).1, (p3 b).1, (p4 b).1, (p5 b).1, (p7 b).1, (p8 b).1, (p9 b).1, (p10 b).1, (p11 b).1⟩)]) (o := 1) rfl rfl (jt c 1 _) k12.1 (by omega)
  apply Tells.seq (fr' := s3Fr) (H' := [some (coO {}), some (rdO c 1 1 (pz b)), some (coO ⟨(p1 b).1, (p2 b).1, (p3 b).1, (p4 b).1, (p5 b).1, (p7 b).1, (p8 b).1, (p9 b).1, (p10 b).1, (p11 b).1⟩)])
  · unfold pz
    generalize zrS 2 (p11 b).2 = s at *
    generalize (p1 b).1 = t1 at *
    generalize (p2 b).1 = t2 at *
    generalize (p3 b).1 = t3 at *
    generalize (p4 b).1 = t4 at *
    generalize (p5 b).1 = t5 at *
    generalize (p7 b).1 = v7 at *
    generalize (p8 b).1 = v8 at *
    generalize (p9 b).1 = v9 at *
    generalize (p10 b).1 = v10 at *
    generalize (p11 b).1 = v11 at *
    generalize (p11 b).2 = s11 at *
    simp only [rdO, coO, Co.pay, Int.cast_ofNat_Int] at hF
    (refine ⟨0, ?_⟩; simp (maxSteps := 2000000) -implicitDefEqProofs [-getElem?_pos, List.getElem?_cons_zero, List.getElem?_cons_succ, exec, runOps, dstOk, wantedV, AM.step, evalT, evalO, evalArgs, evalParts, getF, putF, afterRegion, assignV, boxOf, newBox, hasIdsP, keepF, ofVal, ofCell, plen, pesz, callV, builtinV, lenV, binV, unV, arith, shiftI, loadV, storeV, putV, indexAddrV, live, upd, pget, pset, psetA, pagg, retag, retagP, byteAV, freezeP, freezeV, joinTags, joinTag, tags, ids, scalar, cellsLen, eqV, convV, faV, fvV, shiftBy, shiftRo, rdO, s3Fr, coO, Co.pay, hF])
  clear hF
  have hM := fdone_ev (H := [some (coO {}), some (rdO c 1 1 (pz b)), some (coO ⟨(p1 b).1, (p2 b).1, (p3 b).1, (p4 b).1, (p5 b).1, (p7 b).1, (p8 b).1, (p9 b).1, (p10 b).1, (p11 b).1⟩)]) (o := 1) rfl (jt c 1 _)
  have hpf : ms (decide (0 < (pz b).1.length)) (pz b) = pf b := rfl
  rw [hpf] at hM
  unfold rrdC
  have hqc : (⟨(p1 b).1, (p2 b).1, (p3 b).1, (p4 b).1, (p5 b).1, (p7 b).1, (p8 b).1, (p9 b).1, (p10 b).1, (p11 b).1⟩ : Co) = pC b := rfl
  rw [hqc] at hM ⊢
  clear hpf hqc
  generalize pC b = x at *
  generalize pf b = s at *
  generalize pz b = z at *
  clear k1 k2 k3 k4 k5 k6 k7 k8 k9 k10 k11 k12
  obtain ⟨l, e⟩ := s
  simp only [rdO, coO, Co.pay, Int.cast_ofNat_Int] at hM
  by_cases he : e = 0
  · subst he
    rw [if_neg (by simp)]
    refine Tells.of (o := ⟨.ret, [(2, .ptr 0 0 0 0), (3, .int .i64 0)], [some (coO x), some (rdO c 1 1 (l, 0)), some (coO x)]⟩) ⟨0, ?_⟩ ⟨rfl, rfl, rfl, rfl⟩
    simp (maxSteps := 2000000) -implicitDefEqProofs [-getElem?_pos, List.getElem?_cons_zero, List.getElem?_cons_succ, exec, runOps, dstOk, wantedV, AM.step, evalT, evalO, evalArgs, evalParts, getF, putF, afterRegion, assignV, boxOf, newBox, hasIdsP, keepF, ofVal, ofCell, plen, pesz, callV, builtinV, lenV, binV, unV, arith, shiftI, loadV, storeV, putV, indexAddrV, live, upd, pget, pset, psetA, pagg, retag, retagP, byteAV, freezeP, freezeV, joinTags, joinTag, tags, ids, scalar, cellsLen, eqV, convV, faV, fvV, shiftBy, shiftRo, rdO, s3Fr, coO, Co.pay, hM, flatCells, splice, scalars, scalar, mkCo]
  · rw [if_pos (by simpa using he)]
    have heb : (e != 0) = true := by simpa using he
    refine Tells.of (o := ⟨.ret, [(2, .ptr 0 0 0 0), (3, .int .i64 e)], [some (coO {}), some (rdO c 1 1 (l, e)), some (coO x)]⟩) ?_ ⟨rfl, rfl, rfl, rfl⟩
    apply Run.seq_out (hne := by simp)
    apply Run.seq
    · (refine ⟨0, ?_⟩; conv => lhs; simp (maxSteps := 2000000) -implicitDefEqProofs [-getElem?_pos, List.getElem?_cons_zero, List.getElem?_cons_succ, exec, runOps, dstOk, wantedV, AM.step, evalT, evalO, evalArgs, evalParts, getF, putF, afterRegion, assignV, boxOf, newBox, hasIdsP, keepF, ofVal, ofCell, plen, pesz, callV, builtinV, lenV, binV, unV, arith, shiftI, loadV, storeV, putV, indexAddrV, live, upd, pget, pset, psetA, pagg, retag, retagP, byteAV, freezeP, freezeV, joinTags, joinTag, tags, ids, scalar, cellsLen, eqV, convV, faV, fvV, shiftBy, shiftRo, rdO, s3Fr, coO, Co.pay, hM, heb])
    refine condT (by simp [evalO, getF]) ?_
    apply Run.seq
    · apply Run.dy (by simp) keep8_19 (by simp)
      · (conv => lhs; simp (maxSteps := 2000000) -implicitDefEqProofs [-getElem?_pos, List.getElem?_cons_zero, List.getElem?_cons_succ, exec, runOps, dstOk, wantedV, AM.step, evalT, evalO, evalArgs, evalParts, getF, putF, afterRegion, assignV, boxOf, newBox, hasIdsP, keepF, ofVal, ofCell, plen, pesz, callV, builtinV, lenV, binV, unV, arith, shiftI, loadV, storeV, putV, indexAddrV, live, upd, pget, pset, psetA, pagg, retag, retagP, byteAV, freezeP, freezeV, joinTags, joinTag, tags, ids, scalar, cellsLen, eqV, convV, faV, fvV, shiftBy, shiftRo, runD, out1, markOf, freeO, quietO, pushes, isAssign, calledV, touched, mentioned, opVals, touchCall, mentionCall, idsAt, Op.operands, ids, idsL, lendArgs, lendV, lend1, lendL, rdO, coO, Co.pay, bdC0, flatCells, splice, scalars, scalar])
      · kernel_rfl
      · rfl
    · refine ⟨0, ?_⟩
      simp (maxSteps := 2000000) -implicitDefEqProofs [-getElem?_pos, List.getElem?_cons_zero, List.getElem?_cons_succ, exec, runOps, dstOk, wantedV, AM.step, evalT, evalO, evalArgs, evalParts, getF, putF, afterRegion, assignV, boxOf, newBox, hasIdsP, keepF, ofVal, ofCell, plen, pesz, callV, builtinV, lenV, binV, unV, arith, shiftI, loadV, storeV, putV, indexAddrV, live, upd, pget, pset, psetA, pagg, retag, retagP, byteAV, freezeP, freezeV, joinTags, joinTag, tags, ids, scalar, cellsLen, eqV, convV, faV, fvV, shiftBy, shiftRo, keepF, getF, rdO, coO, Co.pay]

end

end Go.Proofs.Ytkgchoknkakcgaa
