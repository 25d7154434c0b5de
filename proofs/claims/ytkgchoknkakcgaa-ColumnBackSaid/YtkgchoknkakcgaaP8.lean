/- Walks: a column read. -/
import Derived.Test.YtkgchoknkakcgaaP7
namespace Go.Proofs.Ytkgchoknkakcgaa
open Go.AM
set_option linter.unusedSimpArgs false
set_option linter.unusedVariables false

def defC : List UInt8 := [100, 101, 102]

theorem tx_len (s : St) : (tx s).2.1.length ≤ s.1.length := by
  unfold tx; split
  · exact Nat.le_refl _
  · split
    · exact Nat.le_refl _
    · simp
theorem tx_nil {c : Nat} {s : St} (h : c = 0 → s.1 = []) : c = 0 → (tx s).2.1 = [] := by
  intro hc
  have := h hc
  unfold tx; split
  · exact this
  · split
    · exact this
    · simp [this]

/-- what a reader keeps -/
def Ok (c : Nat) (s : St) : Prop := (c = 0 → s.1 = []) ∧ s.1.length ≤ 1000000
theorem Ok.tx {c : Nat} {s : St} (h : Ok c s) : Ok c (tx s).2 := ⟨tx_nil h.1, Nat.le_trans (tx_len s) h.2⟩
theorem Ok.fx {c n : Nat} {s : St} (h : Ok c s) : Ok c (fx n s).2 := ⟨fx_nil h.1, Nat.le_trans (fx_len n s) h.2⟩
theorem Ok.ms {c : Nat} {s : St} {bad : Bool} (h : Ok c s) : Ok c (ms bad s) := h

def q0 (b : List UInt8) := tx (b, 0)
def q1 (b : List UInt8) := tx (ms ((q0 b).1 != defC) (q0 b).2)
def q2 (b : List UInt8) := tx (q1 b).2
def q3 (b : List UInt8) := tx (q2 b).2
def q4 (b : List UInt8) := tx (q3 b).2
def q5 (b : List UInt8) := tx (q4 b).2
def q6 (b : List UInt8) := fx 1 (q5 b).2
def q7 (b : List UInt8) := fx 2 (ms ((q6 b).1 != 12) (q6 b).2)
def q8 (b : List UInt8) := fx 4 (q7 b).2
def q9 (b : List UInt8) := fx 1 (q8 b).2
def q10 (b : List UInt8) := fx 2 (ms (!kn (q9 b).1) (q9 b).2)
def q11 (b : List UInt8) := fx 1 (q10 b).2
def q12 (b : List UInt8) := fx 2 (q11 b).2
def qf (b : List UInt8) : St := ms (decide (0 < (q12 b).2.1.length)) (ms ((q12 b).1 != 0) (q12 b).2)
def qC (b : List UInt8) : Co := ⟨(q1 b).1, (q2 b).1, (q3 b).1, (q4 b).1, (q5 b).1, (q7 b).1, (q8 b).1, (q9 b).1, (q10 b).1, (q11 b).1⟩
/-- a column read -/
def rdC (b : List UInt8) : Co × Int := if (qf b).2 ≠ 0 then ({}, (qf b).2) else (qC b, 0)

theorem bdR (c : Nat) (b : List UInt8) (t : Nat) : buildV X 46 [(0, .ro c (.pb b) t)] = some (.agg (.pc [.ro c (.pb b) t, .int .i64 0])) := by kernel_rfl
theorem bdC0 : buildV X 28 [] = some (.agg (.pc [.str [], .str [], .str [], .str [], .str [], .int .u16 0, .int .u32 0, .int .u8 0, .int .u16 0, .int .u8 0])) := by kernel_rfl
def ptO : AM.Obj := ⟨.pc [.ptr 2 0 0 0, .ptr 2 1 0 0, .ptr 2 2 0 0, .ptr 2 3 0 0, .ptr 2 4 0 0], 0, some 5, 1, true, true, 0⟩
theorem bsP (H : AM.Heap) : buildSliceV X H 50 5 [(0, .ptr 2 0 0 0), (1, .ptr 2 1 0 0), (2, .ptr 2 2 0 0), (3, .ptr 2 3 0 0), (4, .ptr 2 4 0 0)] = some (.sl H.length 0 5 0, H ++ [some ptO]) := by kernel_rfl

def rlFr (i : Nat) : AM.Frame := [(2, .ptr 0 0 0 0), (4, .ptr 1 0 0 0), (5, .ptr 2 0 0 0), (21, .sl 3 0 5 0), (22, .int .i64 5), (23, .int .i64 (i : Nat))]
def r3Fr : AM.Frame := [(2, .ptr 0 0 0 0), (4, .ptr 1 0 0 0), (5, .ptr 2 0 0 0)]

section
variable (c : Nat) (b : List UInt8)

set_option maxRecDepth 100000 in
theorem read_code (hc : c = 0 → b = []) (hb : b.length ≤ 1000000) : ∃ code, Try.f7.body = some code ∧
    Tells (Rets fun fr H => getF fr 2 = .ptr 0 0 0 0 ∧ getF fr 3 = .int .i64 (rdC b).2 ∧ H[0]? = some (some (coO (rdC b).1))) X (evT X) 7 0 code [(0, .ro c (.pb b) 1)] [] := by
  refine ⟨_, rfl, ?_⟩
  have k0 : Ok c (b, 0) := ⟨hc, hb⟩
  have k1 : Ok c (ms ((q0 b).1 != defC) (q0 b).2) := (k0.tx).ms (bad := (q0 b).1 != defC)
  have k2 : Ok c (q1 b).2 := k1.tx
  have k3 : Ok c (q2 b).2 := k2.tx
  have k4 : Ok c (q3 b).2 := k3.tx
  have k5 : Ok c (q4 b).2 := k4.tx
  have k6 : Ok c (q5 b).2 := k5.tx
  have k7 : Ok c (ms ((q6 b).1 != 12) (q6 b).2) := (k6.fx (n := 1)).ms (bad := (q6 b).1 != 12)
  have k8 : Ok c (q7 b).2 := k7.fx (n := 2)
  have k9 : Ok c (q8 b).2 := k8.fx (n := 4)
  have k10 : Ok c (ms (!kn (q9 b).1) (q9 b).2) := (k9.fx (n := 1)).ms (bad := !kn (q9 b).1)
  have k11 : Ok c (q10 b).2 := k10.fx (n := 2)
  have k12 : Ok c (q11 b).2 := k11.fx (n := 1)
  apply Tells.seq (fr' := [(0, .ro c (.pb b) 1), (2, .ptr 0 0 0 0)]) (H' := [some (coO {})])
  · (refine ⟨0, ?_⟩; simp (maxSteps := 2000000) -implicitDefEqProofs [-getElem?_pos, List.getElem?_cons_zero, List.getElem?_cons_succ, exec, runOps, dstOk, wantedV, AM.step, evalT, evalO, evalArgs, evalParts, getF, putF, afterRegion, assignV, boxOf, newBox, hasIdsP, keepF, ofVal, ofCell, plen, pesz, callV, builtinV, lenV, binV, unV, arith, shiftI, loadV, storeV, putV, indexAddrV, live, upd, pget, pset, psetA, pagg, retag, retagP, byteAV, freezeP, freezeV, joinTags, joinTag, tags, ids, scalar, cellsLen, eqV, convV, faV, fvV, shiftBy, shiftRo, coO, Co.pay])
  apply Tells.seq (fr' := [(2, .ptr 0 0 0 0), (4, .ptr 1 0 0 0)]) (H' := [some (coO {}), some ⟨.pc [.ro c (.pb b) 1, .int .i64 0], 0, some 2, 1, false, true, 0⟩])
  · (refine ⟨0, ?_⟩; simp (maxSteps := 2000000) -implicitDefEqProofs [-getElem?_pos, List.getElem?_cons_zero, List.getElem?_cons_succ, exec, runOps, dstOk, wantedV, AM.step, evalT, evalO, evalArgs, evalParts, getF, putF, afterRegion, assignV, boxOf, newBox, hasIdsP, keepF, ofVal, ofCell, plen, pesz, callV, builtinV, lenV, binV, unV, arith, shiftI, loadV, storeV, putV, indexAddrV, live, upd, pget, pset, psetA, pagg, retag, retagP, byteAV, freezeP, freezeV, joinTags, joinTag, tags, ids, scalar, cellsLen, eqV, convV, faV, fvV, shiftBy, shiftRo, bdR])
  have hT0 := text_ev (H := [some (coO {}), some (rdO c 1 0 (b, 0))]) (o := 1) rfl k0.1 (by have := k0.2; omega)
  have hM0 := must_ev (H := [some (coO {}), some (rdO c 1 1 (q0 b).2)]) (o := 1) (is := (q0 b).1 == defC) (bad := (q0 b).1 != defC) (by simp [bne]) rfl
  apply Tells.seq (fr' := [(2, .ptr 0 0 0 0), (4, .ptr 1 0 0 0)]) (H' := [some (coO {}), some (rdO c 1 1 (ms ((q0 b).1 != defC) (q0 b).2))])
  · unfold q0 at *
    generalize tx (b, 0) = r at *
    generalize ms (r.1 != defC) r.2 = s at *
    simp only [rdO, defC] at hT0 hM0
    (refine ⟨0, ?_⟩; simp (maxSteps := 2000000) -implicitDefEqProofs [-getElem?_pos, List.getElem?_cons_zero, List.getElem?_cons_succ, exec, runOps, dstOk, wantedV, AM.step, evalT, evalO, evalArgs, evalParts, getF, putF, afterRegion, assignV, boxOf, newBox, hasIdsP, keepF, ofVal, ofCell, plen, pesz, callV, builtinV, lenV, binV, unV, arith, shiftI, loadV, storeV, putV, indexAddrV, live, upd, pget, pset, psetA, pagg, retag, retagP, byteAV, freezeP, freezeV, joinTags, joinTag, tags, ids, scalar, cellsLen, eqV, convV, faV, fvV, shiftBy, shiftRo, rdO, hT0, hM0, strOp])
  clear hT0 hM0
  apply Tells.seq (fr' := r3Fr) (H' := [some (coO {}), some (rdO c 1 1 (ms ((q0 b).1 != defC) (q0 b).2)), some (coO {})])
  · generalize ms ((q0 b).1 != defC) (q0 b).2 = s at *
    (refine ⟨0, ?_⟩; simp (maxSteps := 2000000) -implicitDefEqProofs [-getElem?_pos, List.getElem?_cons_zero, List.getElem?_cons_succ, exec, runOps, dstOk, wantedV, AM.step, evalT, evalO, evalArgs, evalParts, getF, putF, afterRegion, assignV, boxOf, newBox, hasIdsP, keepF, ofVal, ofCell, plen, pesz, callV, builtinV, lenV, binV, unV, arith, shiftI, loadV, storeV, putV, indexAddrV, live, upd, pget, pset, psetA, pagg, retag, retagP, byteAV, freezeP, freezeV, joinTags, joinTag, tags, ids, scalar, cellsLen, eqV, convV, faV, fvV, shiftBy, shiftRo, rdO, r3Fr, coO, Co.pay])
  apply Tells.assoc
  apply Tells.seq (fr' := rlFr 0) (H' := [some (coO {}), some (rdO c 1 1 (ms ((q0 b).1 != defC) (q0 b).2)), some (coO {}), some ptO])
  · generalize ms ((q0 b).1 != defC) (q0 b).2 = s at *
    (refine ⟨0, ?_⟩; simp (maxSteps := 2000000) -implicitDefEqProofs [-getElem?_pos, List.getElem?_cons_zero, List.getElem?_cons_succ, exec, runOps, dstOk, wantedV, AM.step, evalT, evalO, evalArgs, evalParts, getF, putF, afterRegion, assignV, boxOf, newBox, hasIdsP, keepF, ofVal, ofCell, plen, pesz, callV, builtinV, lenV, binV, unV, arith, shiftI, loadV, storeV, putV, indexAddrV, live, upd, pget, pset, psetA, pagg, retag, retagP, byteAV, freezeP, freezeV, joinTags, joinTag, tags, ids, scalar, cellsLen, eqV, convV, faV, fvV, shiftBy, shiftRo, rdO, r3Fr, coO, Co.pay, bsP, rlFr, show ptO.g = 0 from rfl])
  apply Tells.seq (fr' := rlFr 5 ++ [(24, .bool false)]) (H' := [some (coO {}), some (rdO c 1 1 (q5 b).2), some (coO { s := ((q1 b).1), t := ((q2 b).1), ot := ((q3 b).1), n := ((q4 b).1), on := ((q5 b).1) : Co }), some ptO])
  · apply Run.block_exit
    have hT := text_ev (H := [some (coO {}), some (rdO c 1 1 (ms ((q0 b).1 != defC) (q0 b).2)), some (coO ({} : Co)), some ptO]) (o := 1) rfl k1.1 (by have := k1.2; omega)
    apply Run.loop_step (fr' := rlFr 1) (H' := [some (coO {}), some (rdO c 1 1 (q1 b).2), some (coO { s := ((q1 b).1) : Co }), some ptO])
    · unfold q1
      generalize (ms ((q0 b).1 != defC) (q0 b).2) = s at *
      generalize tx s = r at *
      simp only [rdO, coO, Co.pay, ptO, Int.cast_ofNat_Int] at hT
      (refine ⟨0, ?_⟩; simp (maxSteps := 2000000) -implicitDefEqProofs [-getElem?_pos, List.getElem?_cons_zero, List.getElem?_cons_succ, exec, runOps, dstOk, wantedV, AM.step, evalT, evalO, evalArgs, evalParts, getF, putF, afterRegion, assignV, boxOf, newBox, hasIdsP, keepF, ofVal, ofCell, plen, pesz, callV, builtinV, lenV, binV, unV, arith, shiftI, loadV, storeV, putV, indexAddrV, live, upd, pget, pset, psetA, pagg, retag, retagP, byteAV, freezeP, freezeV, joinTags, joinTag, tags, ids, scalar, cellsLen, eqV, convV, faV, fvV, shiftBy, shiftRo, rdO, rlFr, coO, Co.pay, ptO, hT, IntKind.wrap, IntKind.bits, IntKind.signed])
    clear hT
    have hT := text_ev (H := [some (coO {}), some (rdO c 1 1 (q1 b).2), some (coO { s := ((q1 b).1) : Co }), some ptO]) (o := 1) rfl k2.1 (by have := k2.2; omega)
    apply Run.loop_step (fr' := rlFr 2) (H' := [some (coO {}), some (rdO c 1 1 (q2 b).2), some (coO { s := ((q1 b).1), t := ((q2 b).1) : Co }), some ptO])
    · unfold q2
      generalize (q1 b).1 = t1 at *
      generalize (q1 b).2 = s at *
      generalize tx s = r at *
      simp only [rdO, coO, Co.pay, ptO, Int.cast_ofNat_Int] at hT
      (refine ⟨0, ?_⟩; simp (maxSteps := 2000000) -implicitDefEqProofs [-getElem?_pos, List.getElem?_cons_zero, List.getElem?_cons_succ, exec, runOps, dstOk, wantedV, AM.step, evalT, evalO, evalArgs, evalParts, getF, putF, afterRegion, assignV, boxOf, newBox, hasIdsP, keepF, ofVal, ofCell, plen, pesz, callV, builtinV, lenV, binV, unV, arith, shiftI, loadV, storeV, putV, indexAddrV, live, upd, pget, pset, psetA, pagg, retag, retagP, byteAV, freezeP, freezeV, joinTags, joinTag, tags, ids, scalar, cellsLen, eqV, convV, faV, fvV, shiftBy, shiftRo, rdO, rlFr, coO, Co.pay, ptO, hT, IntKind.wrap, IntKind.bits, IntKind.signed])
    clear hT
    have hT := text_ev (H := [some (coO {}), some (rdO c 1 1 (q2 b).2), some (coO { s := ((q1 b).1), t := ((q2 b).1) : Co }), some ptO]) (o := 1) rfl k3.1 (by have := k3.2; omega)
    apply Run.loop_step (fr' := rlFr 3) (H' := [some (coO {}), some (rdO c 1 1 (q3 b).2), some (coO { s := ((q1 b).1), t := ((q2 b).1), ot := ((q3 b).1) : Co }), some ptO])
    · unfold q3
      generalize (q1 b).1 = t1 at *
      generalize (q2 b).1 = t2 at *
      generalize (q2 b).2 = s at *
      generalize tx s = r at *
      simp only [rdO, coO, Co.pay, ptO, Int.cast_ofNat_Int] at hT
      (refine ⟨0, ?_⟩; simp (maxSteps := 2000000) -implicitDefEqProofs [-getElem?_pos, List.getElem?_cons_zero, List.getElem?_cons_succ, exec, runOps, dstOk, wantedV, AM.step, evalT, evalO, evalArgs, evalParts, getF, putF, afterRegion, assignV, boxOf, newBox, hasIdsP, keepF, ofVal, ofCell, plen, pesz, callV, builtinV, lenV, binV, unV, arith, shiftI, loadV, storeV, putV, indexAddrV, live, upd, pget, pset, psetA, pagg, retag, retagP, byteAV, freezeP, freezeV, joinTags, joinTag, tags, ids, scalar, cellsLen, eqV, convV, faV, fvV, shiftBy, shiftRo, rdO, rlFr, coO, Co.pay, ptO, hT, IntKind.wrap, IntKind.bits, IntKind.signed])
    clear hT
    have hT := text_ev (H := [some (coO {}), some (rdO c 1 1 (q3 b).2), some (coO { s := ((q1 b).1), t := ((q2 b).1), ot := ((q3 b).1) : Co }), some ptO]) (o := 1) rfl k4.1 (by have := k4.2; omega)
    apply Run.loop_step (fr' := rlFr 4) (H' := [some (coO {}), some (rdO c 1 1 (q4 b).2), some (coO { s := ((q1 b).1), t := ((q2 b).1), ot := ((q3 b).1), n := ((q4 b).1) : Co }), some ptO])
    · unfold q4
      generalize (q1 b).1 = t1 at *
      generalize (q2 b).1 = t2 at *
      generalize (q3 b).1 = t3 at *
      generalize (q3 b).2 = s at *
      generalize tx s = r at *
      simp only [rdO, coO, Co.pay, ptO, Int.cast_ofNat_Int] at hT
      (refine ⟨0, ?_⟩; simp (maxSteps := 2000000) -implicitDefEqProofs [-getElem?_pos, List.getElem?_cons_zero, List.getElem?_cons_succ, exec, runOps, dstOk, wantedV, AM.step, evalT, evalO, evalArgs, evalParts, getF, putF, afterRegion, assignV, boxOf, newBox, hasIdsP, keepF, ofVal, ofCell, plen, pesz, callV, builtinV, lenV, binV, unV, arith, shiftI, loadV, storeV, putV, indexAddrV, live, upd, pget, pset, psetA, pagg, retag, retagP, byteAV, freezeP, freezeV, joinTags, joinTag, tags, ids, scalar, cellsLen, eqV, convV, faV, fvV, shiftBy, shiftRo, rdO, rlFr, coO, Co.pay, ptO, hT, IntKind.wrap, IntKind.bits, IntKind.signed])
    clear hT
    have hT := text_ev (H := [some (coO {}), some (rdO c 1 1 (q4 b).2), some (coO { s := ((q1 b).1), t := ((q2 b).1), ot := ((q3 b).1), n := ((q4 b).1) : Co }), some ptO]) (o := 1) rfl k5.1 (by have := k5.2; omega)
    apply Run.loop_step (fr' := rlFr 5) (H' := [some (coO {}), some (rdO c 1 1 (q5 b).2), some (coO { s := ((q1 b).1), t := ((q2 b).1), ot := ((q3 b).1), n := ((q4 b).1), on := ((q5 b).1) : Co }), some ptO])
    · unfold q5
      generalize (q1 b).1 = t1 at *
      generalize (q2 b).1 = t2 at *
      generalize (q3 b).1 = t3 at *
      generalize (q4 b).1 = t4 at *
      generalize (q4 b).2 = s at *
      generalize tx s = r at *
      simp only [rdO, coO, Co.pay, ptO, Int.cast_ofNat_Int] at hT
      (refine ⟨0, ?_⟩; simp (maxSteps := 2000000) -implicitDefEqProofs [-getElem?_pos, List.getElem?_cons_zero, List.getElem?_cons_succ, exec, runOps, dstOk, wantedV, AM.step, evalT, evalO, evalArgs, evalParts, getF, putF, afterRegion, assignV, boxOf, newBox, hasIdsP, keepF, ofVal, ofCell, plen, pesz, callV, builtinV, lenV, binV, unV, arith, shiftI, loadV, storeV, putV, indexAddrV, live, upd, pget, pset, psetA, pagg, retag, retagP, byteAV, freezeP, freezeV, joinTags, joinTag, tags, ids, scalar, cellsLen, eqV, convV, faV, fvV, shiftBy, shiftRo, rdO, rlFr, coO, Co.pay, ptO, hT, IntKind.wrap, IntKind.bits, IntKind.signed])
    clear hT
    refine Run.loop_out ?_ (by simp)
    generalize (q5 b).2 = s at *
    (refine ⟨0, ?_⟩; simp (maxSteps := 2000000) -implicitDefEqProofs [-getElem?_pos, List.getElem?_cons_zero, List.getElem?_cons_succ, exec, runOps, dstOk, wantedV, AM.step, evalT, evalO, evalArgs, evalParts, getF, putF, afterRegion, assignV, boxOf, newBox, hasIdsP, keepF, ofVal, ofCell, plen, pesz, callV, builtinV, lenV, binV, unV, arith, shiftI, loadV, storeV, putV, indexAddrV, live, upd, pget, pset, psetA, pagg, retag, retagP, byteAV, freezeP, freezeV, joinTags, joinTag, tags, ids, scalar, cellsLen, eqV, convV, faV, fvV, shiftBy, shiftRo, rlFr])
  have hF6 := fixed_ev (N := 1) (n := 1) (H := [some (coO {}), some (rdO c 1 1 (q5 b).2), some (coO ⟨(q1 b).1, (q2 b).1, (q3 b).1, (q4 b).1, (q5 b).1, 0, 0, 0, 0, 0⟩), some ptO]) (o := 1) rfl rfl k6.1 (by have := k6.2; omega) (by omega) (by omega)
  have hM6 := must_ev (H := [some (coO {}), some (rdO c 1 1 (q6 b).2), some (coO ⟨(q1 b).1, (q2 b).1, (q3 b).1, (q4 b).1, (q5 b).1, 0, 0, 0, 0, 0⟩), some ptO]) (o := 1) (is := ((q6 b).1 : Int) == 12) (bad := (q6 b).1 != 12) (by simp [bne]; rw [Bool.eq_iff_iff]; simp; omega) rfl
  apply Tells.seq (fr' := r3Fr) (H' := [some (coO {}), some (rdO c 1 1 (ms ((q6 b).1 != 12) (q6 b).2)), some (coO ⟨(q1 b).1, (q2 b).1, (q3 b).1, (q4 b).1, (q5 b).1, 0, 0, 0, 0, 0⟩), some ptO])
  · unfold q6 at *
    have hlt := fx_lt (n := 1) (q5 b).2
    generalize ms ((fx 1 (q5 b).2).1 != 12) (fx 1 (q5 b).2).2 = s at *
    generalize fx 1 (q5 b).2 = r at *
    generalize (q1 b).1 = t1 at *
    generalize (q2 b).1 = t2 at *
    generalize (q3 b).1 = t3 at *
    generalize (q4 b).1 = t4 at *
    generalize (q5 b).1 = t5 at *
    generalize (q5 b).2 = s5 at *
    simp only [rdO, coO, Co.pay, ptO, Int.cast_ofNat_Int] at hF6 hM6
    (refine ⟨0, ?_⟩; simp (maxSteps := 2000000) -implicitDefEqProofs [-getElem?_pos, List.getElem?_cons_zero, List.getElem?_cons_succ, exec, runOps, dstOk, wantedV, AM.step, evalT, evalO, evalArgs, evalParts, getF, putF, afterRegion, assignV, boxOf, newBox, hasIdsP, keepF, ofVal, ofCell, plen, pesz, callV, builtinV, lenV, binV, unV, arith, shiftI, loadV, storeV, putV, indexAddrV, live, upd, pget, pset, psetA, pagg, retag, retagP, byteAV, freezeP, freezeV, joinTags, joinTag, tags, ids, scalar, cellsLen, eqV, convV, faV, fvV, shiftBy, shiftRo, rdO, rlFr, r3Fr, coO, Co.pay, ptO, hF6, hM6])
  clear hF6 hM6
  have hF := fixed_ev (N := 2) (n := 2) (H := [some (coO {}), some (rdO c 1 1 (ms ((q6 b).1 != 12) (q6 b).2)), some (coO ⟨(q1 b).1, (q2 b).1, (q3 b).1, (q4 b).1, (q5 b).1, 0, 0, 0, 0, 0⟩), some ptO]) (o := 1) rfl rfl k7.1 (by have := k7.2; omega) (by omega) (by omega)
  apply Tells.seq (fr' := r3Fr) (H' := [some (coO {}), some (rdO c 1 1 (q7 b).2), some (coO ⟨(q1 b).1, (q2 b).1, (q3 b).1, (q4 b).1, (q5 b).1, (q7 b).1, 0, 0, 0, 0⟩), some ptO])
  · unfold q7
    have hlt := fx_lt (n := 2) (ms ((q6 b).1 != 12) (q6 b).2)
    generalize (ms ((q6 b).1 != 12) (q6 b).2) = s at *
    generalize fx 2 s = r at *
    generalize (q1 b).1 = t1 at *
    generalize (q2 b).1 = t2 at *
    generalize (q3 b).1 = t3 at *
    generalize (q4 b).1 = t4 at *
    generalize (q5 b).1 = t5 at *
    have w : IntKind.u16.wrap (r.1 : Nat) = (r.1 : Nat) := wrap_u16 (by omega) (by omega)
    simp only [rdO, coO, Co.pay, ptO, Int.cast_ofNat_Int] at hF
    (refine ⟨0, ?_⟩; simp (maxSteps := 2000000) -implicitDefEqProofs [-getElem?_pos, List.getElem?_cons_zero, List.getElem?_cons_succ, exec, runOps, dstOk, wantedV, AM.step, evalT, evalO, evalArgs, evalParts, getF, putF, afterRegion, assignV, boxOf, newBox, hasIdsP, keepF, ofVal, ofCell, plen, pesz, callV, builtinV, lenV, binV, unV, arith, shiftI, loadV, storeV, putV, indexAddrV, live, upd, pget, pset, psetA, pagg, retag, retagP, byteAV, freezeP, freezeV, joinTags, joinTag, tags, ids, scalar, cellsLen, eqV, convV, faV, fvV, shiftBy, shiftRo, rdO, r3Fr, coO, Co.pay, ptO, hF, w])
  clear hF
  have hF := fixed_ev (N := 4) (n := 4) (H := [some (coO {}), some (rdO c 1 1 (q7 b).2), some (coO ⟨(q1 b).1, (q2 b).1, (q3 b).1, (q4 b).1, (q5 b).1, (q7 b).1, 0, 0, 0, 0⟩), some ptO]) (o := 1) rfl rfl k8.1 (by have := k8.2; omega) (by omega) (by omega)
  apply Tells.seq (fr' := r3Fr) (H' := [some (coO {}), some (rdO c 1 1 (q8 b).2), some (coO ⟨(q1 b).1, (q2 b).1, (q3 b).1, (q4 b).1, (q5 b).1, (q7 b).1, (q8 b).1, 0, 0, 0⟩), some ptO])
  · unfold q8
    have hlt := fx_lt (n := 4) (q7 b).2
    generalize (q7 b).2 = s at *
    generalize fx 4 s = r at *
    generalize (q1 b).1 = t1 at *
    generalize (q2 b).1 = t2 at *
    generalize (q3 b).1 = t3 at *
    generalize (q4 b).1 = t4 at *
    generalize (q5 b).1 = t5 at *
    generalize (q7 b).1 = v7 at *
    have w : IntKind.u32.wrap (r.1 : Nat) = (r.1 : Nat) := wrap_u32 (by omega) (by omega)
    simp only [rdO, coO, Co.pay, ptO, Int.cast_ofNat_Int] at hF
    (refine ⟨0, ?_⟩; simp (maxSteps := 2000000) -implicitDefEqProofs [-getElem?_pos, List.getElem?_cons_zero, List.getElem?_cons_succ, exec, runOps, dstOk, wantedV, AM.step, evalT, evalO, evalArgs, evalParts, getF, putF, afterRegion, assignV, boxOf, newBox, hasIdsP, keepF, ofVal, ofCell, plen, pesz, callV, builtinV, lenV, binV, unV, arith, shiftI, loadV, storeV, putV, indexAddrV, live, upd, pget, pset, psetA, pagg, retag, retagP, byteAV, freezeP, freezeV, joinTags, joinTag, tags, ids, scalar, cellsLen, eqV, convV, faV, fvV, shiftBy, shiftRo, rdO, r3Fr, coO, Co.pay, ptO, hF, w])
  clear hF
  have hF := fixed_ev (N := 1) (n := 1) (H := [some (coO {}), some (rdO c 1 1 (q8 b).2), some (coO ⟨(q1 b).1, (q2 b).1, (q3 b).1, (q4 b).1, (q5 b).1, (q7 b).1, (q8 b).1, 0, 0, 0⟩), some ptO]) (o := 1) rfl rfl k9.1 (by have := k9.2; omega) (by omega) (by omega)
  apply Tells.seq (fr' := r3Fr) (H' := [some (coO {}), some (rdO c 1 1 (q9 b).2), some (coO ⟨(q1 b).1, (q2 b).1, (q3 b).1, (q4 b).1, (q5 b).1, (q7 b).1, (q8 b).1, (q9 b).1, 0, 0⟩), some ptO])
  · unfold q9
    have hlt := fx_lt (n := 1) (q8 b).2
    generalize (q8 b).2 = s at *
    generalize fx 1 s = r at *
    generalize (q1 b).1 = t1 at *
    generalize (q2 b).1 = t2 at *
    generalize (q3 b).1 = t3 at *
    generalize (q4 b).1 = t4 at *
    generalize (q5 b).1 = t5 at *
    generalize (q7 b).1 = v7 at *
    generalize (q8 b).1 = v8 at *
    have w : IntKind.u8.wrap (r.1 : Nat) = (r.1 : Nat) := wrap_u8 (by omega) (by omega)
    simp only [rdO, coO, Co.pay, ptO, Int.cast_ofNat_Int] at hF
    (refine ⟨0, ?_⟩; simp (maxSteps := 2000000) -implicitDefEqProofs [-getElem?_pos, List.getElem?_cons_zero, List.getElem?_cons_succ, exec, runOps, dstOk, wantedV, AM.step, evalT, evalO, evalArgs, evalParts, getF, putF, afterRegion, assignV, boxOf, newBox, hasIdsP, keepF, ofVal, ofCell, plen, pesz, callV, builtinV, lenV, binV, unV, arith, shiftI, loadV, storeV, putV, indexAddrV, live, upd, pget, pset, psetA, pagg, retag, retagP, byteAV, freezeP, freezeV, joinTags, joinTag, tags, ids, scalar, cellsLen, eqV, convV, faV, fvV, shiftBy, shiftRo, rdO, r3Fr, coO, Co.pay, ptO, hF, w])
  clear hF
  have hty : (q9 b).1 < 256 := fx_lt (n := 1) (q8 b).2
  have hK := fun H => known_ev hty H
  have hM9 := must_ev (H := [some (coO {}), some (rdO c 1 1 (q9 b).2), some (coO ⟨(q1 b).1, (q2 b).1, (q3 b).1, (q4 b).1, (q5 b).1, (q7 b).1, (q8 b).1, (q9 b).1, 0, 0⟩), some ptO]) (o := 1) (is := kn (q9 b).1) (bad := !kn (q9 b).1) (by simp) rfl
  apply Tells.seq (fr' := r3Fr) (H' := [some (coO {}), some (rdO c 1 1 (ms (!kn (q9 b).1) (q9 b).2)), some (coO ⟨(q1 b).1, (q2 b).1, (q3 b).1, (q4 b).1, (q5 b).1, (q7 b).1, (q8 b).1, (q9 b).1, 0, 0⟩), some ptO])
  · generalize ms (!kn (q9 b).1) (q9 b).2 = s at *
    generalize (q1 b).1 = t1 at *
    generalize (q2 b).1 = t2 at *
    generalize (q3 b).1 = t3 at *
    generalize (q4 b).1 = t4 at *
    generalize (q5 b).1 = t5 at *
    generalize (q7 b).1 = v7 at *
    generalize (q8 b).1 = v8 at *
    generalize (q9 b).2 = s9 at *
    generalize kn (q9 b).1 = kb at *
    generalize (q9 b).1 = v9 at *
    simp only [rdO, coO, Co.pay, ptO, Int.cast_ofNat_Int] at hM9
    (refine ⟨0, ?_⟩; simp (maxSteps := 2000000) -implicitDefEqProofs [-getElem?_pos, List.getElem?_cons_zero, List.getElem?_cons_succ, exec, runOps, dstOk, wantedV, AM.step, evalT, evalO, evalArgs, evalParts, getF, putF, afterRegion, assignV, boxOf, newBox, hasIdsP, keepF, ofVal, ofCell, plen, pesz, callV, builtinV, lenV, binV, unV, arith, shiftI, loadV, storeV, putV, indexAddrV, live, upd, pget, pset, psetA, pagg, retag, retagP, byteAV, freezeP, freezeV, joinTags, joinTag, tags, ids, scalar, cellsLen, eqV, convV, faV, fvV, shiftBy, shiftRo, rdO, r3Fr, coO, Co.pay, ptO, hK, hM9])
  clear hM9 hK
  have hF := fixed_ev (N := 2) (n := 2) (H := [some (coO {}), some (rdO c 1 1 (ms (!kn (q9 b).1) (q9 b).2)), some (coO ⟨(q1 b).1, (q2 b).1, (q3 b).1, (q4 b).1, (q5 b).1, (q7 b).1, (q8 b).1, (q9 b).1, 0, 0⟩), some ptO]) (o := 1) rfl rfl k10.1 (by have := k10.2; omega) (by omega) (by omega)
  apply Tells.seq (fr' := r3Fr) (H' := [some (coO {}), some (rdO c 1 1 (q10 b).2), some (coO ⟨(q1 b).1, (q2 b).1, (q3 b).1, (q4 b).1, (q5 b).1, (q7 b).1, (q8 b).1, (q9 b).1, (q10 b).1, 0⟩), some ptO])
  · unfold q10
    have hlt := fx_lt (n := 2) (ms (!kn (q9 b).1) (q9 b).2)
    generalize (ms (!kn (q9 b).1) (q9 b).2) = s at *
    generalize fx 2 s = r at *
    generalize (q1 b).1 = t1 at *
    generalize (q2 b).1 = t2 at *
    generalize (q3 b).1 = t3 at *
    generalize (q4 b).1 = t4 at *
    generalize (q5 b).1 = t5 at *
    generalize (q7 b).1 = v7 at *
    generalize (q8 b).1 = v8 at *
    generalize (q9 b).1 = v9 at *
    have w : IntKind.u16.wrap (r.1 : Nat) = (r.1 : Nat) := wrap_u16 (by omega) (by omega)
    simp only [rdO, coO, Co.pay, ptO, Int.cast_ofNat_Int] at hF
    (refine ⟨0, ?_⟩; simp (maxSteps := 2000000) -implicitDefEqProofs [-getElem?_pos, List.getElem?_cons_zero, List.getElem?_cons_succ, exec, runOps, dstOk, wantedV, AM.step, evalT, evalO, evalArgs, evalParts, getF, putF, afterRegion, assignV, boxOf, newBox, hasIdsP, keepF, ofVal, ofCell, plen, pesz, callV, builtinV, lenV, binV, unV, arith, shiftI, loadV, storeV, putV, indexAddrV, live, upd, pget, pset, psetA, pagg, retag, retagP, byteAV, freezeP, freezeV, joinTags, joinTag, tags, ids, scalar, cellsLen, eqV, convV, faV, fvV, shiftBy, shiftRo, rdO, r3Fr, coO, Co.pay, ptO, hF, w])
  clear hF
  have hF := fixed_ev (N := 1) (n := 1) (H := [some (coO {}), some (rdO c 1 1 (q10 b).2), some (coO ⟨(q1 b).1, (q2 b).1, (q3 b).1, (q4 b).1, (q5 b).1, (q7 b).1, (q8 b).1, (q9 b).1, (q10 b).1, 0⟩), some ptO]) (o := 1) rfl rfl k11.1 (by have := k11.2; omega) (by omega) (by omega)
  apply Tells.seq (fr' := r3Fr) (H' := [some (coO {}), some (rdO c 1 1 (q11 b).2), some (coO ⟨(q1 b).1, (q2 b).1, (q3 b).1, (q4 b).1, (q5 b).1, (q7 b).1, (q8 b).1, (q9 b).1, (q10 b).1, (q11 b).1⟩), some ptO])
  · unfold q11
    have hlt := fx_lt (n := 1) (q10 b).2
    generalize (q10 b).2 = s at *
    generalize fx 1 s = r at *
    generalize (q1 b).1 = t1 at *
    generalize (q2 b).1 = t2 at *
    generalize (q3 b).1 = t3 at *
    generalize (q4 b).1 = t4 at *
    generalize (q5 b).1 = t5 at *
    generalize (q7 b).1 = v7 at *
    generalize (q8 b).1 = v8 at *
    generalize (q9 b).1 = v9 at *
    generalize (q10 b).1 = v10 at *
    have w : IntKind.u8.wrap (r.1 : Nat) = (r.1 : Nat) := wrap_u8 (by omega) (by omega)
    simp only [rdO, coO, Co.pay, ptO, Int.cast_ofNat_Int] at hF
    (refine ⟨0, ?_⟩; simp (maxSteps := 2000000) -implicitDefEqProofs [-getElem?_pos, List.getElem?_cons_zero, List.getElem?_cons_succ, exec, runOps, dstOk, wantedV, AM.step, evalT, evalO, evalArgs, evalParts, getF, putF, afterRegion, assignV, boxOf, newBox, hasIdsP, keepF, ofVal, ofCell, plen, pesz, callV, builtinV, lenV, binV, unV, arith, shiftI, loadV, storeV, putV, indexAddrV, live, upd, pget, pset, psetA, pagg, retag, retagP, byteAV, freezeP, freezeV, joinTags, joinTag, tags, ids, scalar, cellsLen, eqV, convV, faV, fvV, shiftBy, shiftRo, rdO, r3Fr, coO, Co.pay, ptO, hF, w])
  clear hF
  have hF := fixed_ev (N := 2) (n := 2) (H := [some (coO {}), some (rdO c 1 1 (q11 b).2), some (coO ⟨(q1 b).1, (q2 b).1, (q3 b).1, (q4 b).1, (q5 b).1, (q7 b).1, (q8 b).1, (q9 b).1, (q10 b).1, (q11 b).1⟩), some ptO]) (o := 1) rfl rfl k12.1 (by have := k12.2; omega) (by omega) (by omega)
  have hM := must_ev (H := [some (coO {}), some (rdO c 1 1 (q12 b).2), some (coO ⟨(q1 b).1, (q2 b).1, (q3 b).1, (q4 b).1, (q5 b).1, (q7 b).1, (q8 b).1, (q9 b).1, (q10 b).1, (q11 b).1⟩), some ptO]) (o := 1) (is := ((q12 b).1 : Int) == 0) (bad := (q12 b).1 != 0) (by simp [bne]; rw [Bool.eq_iff_iff]; simp) rfl
  apply Tells.seq (fr' := r3Fr) (H' := [some (coO {}), some (rdO c 1 1 (ms ((q12 b).1 != 0) (q12 b).2)), some (coO ⟨(q1 b).1, (q2 b).1, (q3 b).1, (q4 b).1, (q5 b).1, (q7 b).1, (q8 b).1, (q9 b).1, (q10 b).1, (q11 b).1⟩), some ptO])
  · unfold q12 at *
    generalize ms ((fx 2 (q11 b).2).1 != 0) (fx 2 (q11 b).2).2 = s at *
    generalize fx 2 (q11 b).2 = r at *
    generalize (q1 b).1 = t1 at *
    generalize (q2 b).1 = t2 at *
    generalize (q3 b).1 = t3 at *
    generalize (q4 b).1 = t4 at *
    generalize (q5 b).1 = t5 at *
    generalize (q7 b).1 = v7 at *
    generalize (q8 b).1 = v8 at *
    generalize (q9 b).1 = v9 at *
    generalize (q10 b).1 = v10 at *
    generalize (q11 b).1 = v11 at *
    generalize (q11 b).2 = s11 at *
    simp only [rdO, coO, Co.pay, ptO, Int.cast_ofNat_Int] at hF hM
    (refine ⟨0, ?_⟩; simp (maxSteps := 2000000) -implicitDefEqProofs [-getElem?_pos, List.getElem?_cons_zero, List.getElem?_cons_succ, exec, runOps, dstOk, wantedV, AM.step, evalT, evalO, evalArgs, evalParts, getF, putF, afterRegion, assignV, boxOf, newBox, hasIdsP, keepF, ofVal, ofCell, plen, pesz, callV, builtinV, lenV, binV, unV, arith, shiftI, loadV, storeV, putV, indexAddrV, live, upd, pget, pset, psetA, pagg, retag, retagP, byteAV, freezeP, freezeV, joinTags, joinTag, tags, ids, scalar, cellsLen, eqV, convV, faV, fvV, shiftBy, shiftRo, rdO, r3Fr, coO, Co.pay, ptO, hF, hM])
  clear hF hM
  have hM := must_ev (H := [some (coO {}), some (rdO c 1 1 (ms ((q12 b).1 != 0) (q12 b).2)), some (coO ⟨(q1 b).1, (q2 b).1, (q3 b).1, (q4 b).1, (q5 b).1, (q7 b).1, (q8 b).1, (q9 b).1, (q10 b).1, (q11 b).1⟩), some ptO]) (o := 1) (is := ((q12 b).2.1.length : Int) == 0) (bad := decide (0 < (q12 b).2.1.length)) (by rw [Bool.eq_iff_iff]; simp) rfl
  apply Tells.seq (fr' := r3Fr) (H' := [some (coO {}), some (rdO c 1 1 (qf b)), some (coO ⟨(q1 b).1, (q2 b).1, (q3 b).1, (q4 b).1, (q5 b).1, (q7 b).1, (q8 b).1, (q9 b).1, (q10 b).1, (q11 b).1⟩), some ptO])
  · have hms : (ms ((q12 b).1 != 0) (q12 b).2).1 = (q12 b).2.1 := rfl
    have hqf : ms (decide (0 < (q12 b).2.1.length)) (ms ((q12 b).1 != 0) (q12 b).2) = qf b := rfl
    rw [hqf] at hM
    generalize qf b = s at *
    generalize hm : ms ((q12 b).1 != 0) (q12 b).2 = m at *
    rw [← hms] at hM
    clear hqf hms
    generalize (q1 b).1 = t1 at *
    generalize (q2 b).1 = t2 at *
    generalize (q3 b).1 = t3 at *
    generalize (q4 b).1 = t4 at *
    generalize (q5 b).1 = t5 at *
    generalize (q7 b).1 = v7 at *
    generalize (q8 b).1 = v8 at *
    generalize (q9 b).1 = v9 at *
    generalize (q10 b).1 = v10 at *
    generalize (q11 b).1 = v11 at *
    simp only [rdO, coO, Co.pay, ptO, Int.cast_ofNat_Int] at hM
    (refine ⟨0, ?_⟩; simp (maxSteps := 2000000) -implicitDefEqProofs [-getElem?_pos, List.getElem?_cons_zero, List.getElem?_cons_succ, exec, runOps, dstOk, wantedV, AM.step, evalT, evalO, evalArgs, evalParts, getF, putF, afterRegion, assignV, boxOf, newBox, hasIdsP, keepF, ofVal, ofCell, plen, pesz, callV, builtinV, lenV, binV, unV, arith, shiftI, loadV, storeV, putV, indexAddrV, live, upd, pget, pset, psetA, pagg, retag, retagP, byteAV, freezeP, freezeV, joinTags, joinTag, tags, ids, scalar, cellsLen, eqV, convV, faV, fvV, shiftBy, shiftRo, rdO, r3Fr, coO, Co.pay, ptO, hM])
  clear hM
  unfold rdC
  have hqc : (⟨(q1 b).1, (q2 b).1, (q3 b).1, (q4 b).1, (q5 b).1, (q7 b).1, (q8 b).1, (q9 b).1, (q10 b).1, (q11 b).1⟩ : Co) = qC b := rfl
  rw [hqc]
  generalize qC b = x at *
  generalize qf b = s at *
  clear k1 k2 k3 k4 k5 k6 k7 k8 k9 k10 k11 k12
  obtain ⟨l, e⟩ := s
  by_cases he : e = 0
  · subst he
    rw [if_neg (by simp)]
    refine Tells.of (o := ⟨.ret, [(2, .ptr 0 0 0 0), (3, .int .i64 0)], [some (coO x), some (rdO c 1 1 (l, 0)), some (coO x), some ptO]⟩) ⟨0, ?_⟩ ⟨rfl, rfl, rfl, rfl⟩
    simp (maxSteps := 2000000) -implicitDefEqProofs [-getElem?_pos, List.getElem?_cons_zero, List.getElem?_cons_succ, exec, runOps, dstOk, wantedV, AM.step, evalT, evalO, evalArgs, evalParts, getF, putF, afterRegion, assignV, boxOf, newBox, hasIdsP, keepF, ofVal, ofCell, plen, pesz, callV, builtinV, lenV, binV, unV, arith, shiftI, loadV, storeV, putV, indexAddrV, live, upd, pget, pset, psetA, pagg, retag, retagP, byteAV, freezeP, freezeV, joinTags, joinTag, tags, ids, scalar, cellsLen, eqV, convV, faV, fvV, shiftBy, shiftRo, rdO, r3Fr, coO, Co.pay, ptO, flatCells, splice, scalars, scalar, mkCo]
  · rw [if_pos (by simpa using he)]
    have heb : (e != 0) = true := by simpa using he
    refine Tells.of (o := ⟨.ret, [(2, .ptr 0 0 0 0), (3, .int .i64 e)], [some (coO {}), some (rdO c 1 1 (l, e)), some (coO x), some ptO]⟩) ?_ ⟨rfl, rfl, rfl, rfl⟩
    apply Run.seq_out (hne := by simp)
    apply Run.seq
    · (refine ⟨0, ?_⟩; conv => lhs; simp (maxSteps := 2000000) -implicitDefEqProofs [-getElem?_pos, List.getElem?_cons_zero, List.getElem?_cons_succ, exec, runOps, dstOk, wantedV, AM.step, evalT, evalO, evalArgs, evalParts, getF, putF, afterRegion, assignV, boxOf, newBox, hasIdsP, keepF, ofVal, ofCell, plen, pesz, callV, builtinV, lenV, binV, unV, arith, shiftI, loadV, storeV, putV, indexAddrV, live, upd, pget, pset, psetA, pagg, retag, retagP, byteAV, freezeP, freezeV, joinTags, joinTag, tags, ids, scalar, cellsLen, eqV, convV, faV, fvV, shiftBy, shiftRo, rdO, r3Fr, coO, Co.pay, ptO, heb])
    refine condT (by simp [evalO, getF]) ?_
    apply Run.seq
    · apply Run.dy (by simp) keep7_19 (by simp)
      · (conv => lhs; simp (maxSteps := 2000000) -implicitDefEqProofs [-getElem?_pos, List.getElem?_cons_zero, List.getElem?_cons_succ, exec, runOps, dstOk, wantedV, AM.step, evalT, evalO, evalArgs, evalParts, getF, putF, afterRegion, assignV, boxOf, newBox, hasIdsP, keepF, ofVal, ofCell, plen, pesz, callV, builtinV, lenV, binV, unV, arith, shiftI, loadV, storeV, putV, indexAddrV, live, upd, pget, pset, psetA, pagg, retag, retagP, byteAV, freezeP, freezeV, joinTags, joinTag, tags, ids, scalar, cellsLen, eqV, convV, faV, fvV, shiftBy, shiftRo, runD, out1, markOf, freeO, quietO, pushes, isAssign, calledV, touched, mentioned, opVals, touchCall, mentionCall, idsAt, Op.operands, ids, idsL, lendArgs, lendV, lend1, lendL, rdO, coO, Co.pay, bdC0, flatCells, splice, scalars, scalar])
      · kernel_rfl
      · rfl
    · refine ⟨0, ?_⟩
      simp (maxSteps := 2000000) -implicitDefEqProofs [-getElem?_pos, List.getElem?_cons_zero, List.getElem?_cons_succ, exec, runOps, dstOk, wantedV, AM.step, evalT, evalO, evalArgs, evalParts, getF, putF, afterRegion, assignV, boxOf, newBox, hasIdsP, keepF, ofVal, ofCell, plen, pesz, callV, builtinV, lenV, binV, unV, arith, shiftI, loadV, storeV, putV, indexAddrV, live, upd, pget, pset, psetA, pagg, retag, retagP, byteAV, freezeP, freezeV, joinTags, joinTag, tags, ids, scalar, cellsLen, eqV, convV, faV, fvV, shiftBy, shiftRo, keepF, getF, rdO, coO, Co.pay, ptO]

end

end Go.Proofs.Ytkgchoknkakcgaa
