/- Walks: Append's paths. -/
import Derived.Test.YtmdciglfpedhgaaDoorK8
namespace Go.Proofs.YtmdciglfpedhgaaDoor
open Go.AM
set_option linter.unusedSimpArgs false
set_option linter.unusedVariables false

/-- a command's numbers fit -/
structure CmOk (x : Cm) : Prop where
  k : x.k < 256
  st : x.st < 4294967296
  pa : x.pa < 65536
  fl : x.fl < 256
  co : x.co < 4294967296
  op : x.op < 65536

/-- what stands behind a command's kind, ahead of its data -/
def encH (x : Cm) : List UInt8 :=
  match shp x.k with
  | 0 => []
  | 1 => x.txt
  | 2 => leB 4 x.co
  | 3 => leB 4 x.st ++ [UInt8.ofNat x.fl, 1, 0, 0, 0]
  | 4 => leB 4 x.st ++ leB 2 x.pa
  | 5 => leB 4 x.st
  | 6 => leB 2 x.op
  | 7 => leB 4 x.st ++ leB 4 x.co
  | _ => []

theorem bs1k {k : Nat} (hk : k < 256) (H : AM.Heap) : buildSliceV X H 22 1 [(0, .int .u8 (k : Nat))] = some (.ro 1 (.pb [UInt8.ofNat k]) 0, H) := by
  have := bs1 H (UInt8.ofNat k)
  rwa [show (UInt8.ofNat k).toNat = k by simp; omega] at this

theorem bs5 {k : Nat} (hk : k < 256) (H : AM.Heap) : buildSliceV X H 22 5 [(0, .int .u8 (k : Nat)), (1, .int .u8 1), (2, .int .u8 0), (3, .int .u8 0), (4, .int .u8 0)] = some (.ro 1 (.pb [UInt8.ofNat k, 1, 0, 0, 0]) 0, H) := by
  have h1 : (k : Int) < 256 := by omega
  simp [buildSliceV, setParts, litRow, mkRow, asBytes, cellsAV, cellsOf, scalars, scalar, idsL, ids, tagsL, tags, joinTags, joinTag, h1]

/-- how a path leaves the frame and the heap: out holds these bytes -/
def apP (X0 : Option AM.Obj) (l : List UInt8) (fr : AM.Frame) (H : AM.Heap) : Prop :=
  ∃ o g ob tl ext, fr = (3, .ptr 0 0 0 0) :: (7, .sl o 0 l.length g) :: tl ∧ H = X0 :: ext ∧ H[o]? = some (some ob) ∧ Rw (.pb l) g ob ∧ 0 < o

noncomputable def apO : Option Code := (((((Tryd.f7.body).bind cR).bind cR).bind cR).bind cL).bind cR
def apFr (j : Int) (n : Nat) : AM.Frame := [(3, .ptr 0 0 0 0), (7, .sl 2 0 n 1), (21, .int .i64 j)]

section
variable (x : Cm) (c t : Nat) (p : AV) (m : List UInt8) (ob : AM.Obj)


set_option maxRecDepth 100000 in
theorem ap0 (hx : CmOk x) (hw : Rw (.pb m) 1 ob) (hm : m.length + x.txt.length ≤ 80000000) : ∃ code, apO = some code ∧
    Tells (Goes (apP (some (cmO x (.ro c p t))) (m ++ ([])))) X (evT X) 7 0 code (apFr 0 m.length) [some (cmO x (.ro c p t)), some nilB, some ob] := by
  refine ⟨_, rfl, ?_⟩
  have hg := hw.g
  have hp := hw.p
  have hids := hw.ids
  rw [List.append_nil]
  refine Tells.of (o := ⟨.normal, (3, .ptr 0 0 0 0) :: (7, .sl 2 0 m.length 1) :: [(71, .bool false)], [some (cmO x (.ro c p t)), some nilB, some ob]⟩) ⟨0, ?_⟩ ⟨rfl, 2, 1, ob, [(71, .bool false)], [some nilB, some ob], rfl, rfl, rfl, hw, by omega⟩
  simp (maxSteps := 2000000) -implicitDefEqProofs [-getElem?_pos, List.getElem?_cons_zero, List.getElem?_cons_succ, exec, runOps, dstOk, wantedV, AM.step, evalT, evalO, evalArgs, evalParts, getF, putF, afterRegion, assignV, boxOf, newBox, hasIdsP, keepF, ofVal, ofCell, plen, pesz, callV, builtinV, lenV, binV, unV, arith, shiftI, loadV, storeV, putV, indexAddrV, live, upd, pget, pset, psetA, pagg, retag, retagP, byteAV, freezeP, freezeV, joinTags, joinTag, tags, ids, scalar, cellsLen, eqV, convV, faV, fvV, shiftBy, shiftRo, apFr]

set_option maxRecDepth 100000 in
theorem ap1 (hx : CmOk x) (hw : Rw (.pb m) 1 ob) (hm : m.length + x.txt.length ≤ 80000000) : ∃ code, apO = some code ∧
    Tells (Goes (apP (some (cmO x (.ro c p t))) (m ++ (x.txt)))) X (evT X) 7 0 code (apFr 1 m.length) [some (cmO x (.ro c p t)), some nilB, some ob] := by
  refine ⟨_, rfl, ?_⟩
  have hg := hw.g
  have hp := hw.p
  have hids := hw.ids
  obtain ⟨ob1, hw1, hA⟩ := app_b (H := [some (cmO x (.ro c p t)), some nilB, some ob]) (o := 2) (m := x.txt) (src := .str x.txt) rfl hw (.inl rfl) (by omega)
  refine Tells.of (o := ⟨.normal, (3, .ptr 0 0 0 0) :: (7, .sl 2 0 (m ++ x.txt).length 2) :: [], [some (cmO x (.ro c p t)), some nilB, some ob1]⟩) ⟨0, ?_⟩ ⟨rfl, 2, 2, ob1, [], [some nilB, some ob1], rfl, rfl, rfl, hw1, by omega⟩
  simp only [cmO, Cm.pay] at hA
  simp (maxSteps := 2000000) -implicitDefEqProofs [-getElem?_pos, List.getElem?_cons_zero, List.getElem?_cons_succ, exec, runOps, dstOk, wantedV, AM.step, evalT, evalO, evalArgs, evalParts, getF, putF, afterRegion, assignV, boxOf, newBox, hasIdsP, keepF, ofVal, ofCell, plen, pesz, callV, builtinV, lenV, binV, unV, arith, shiftI, loadV, storeV, putV, indexAddrV, live, upd, pget, pset, psetA, pagg, retag, retagP, byteAV, freezeP, freezeV, joinTags, joinTag, tags, ids, scalar, cellsLen, eqV, convV, faV, fvV, shiftBy, shiftRo, apFr, cmO, Cm.pay, hA, upd, assignV]

set_option maxRecDepth 100000 in
theorem ap2 (hx : CmOk x) (hw : Rw (.pb m) 1 ob) (hm : m.length + x.txt.length ≤ 80000000) : ∃ code, apO = some code ∧
    Tells (Goes (apP (some (cmO x (.ro c p t))) (m ++ (leB 4 x.co)))) X (evT X) 7 0 code (apFr 2 m.length) [some (cmO x (.ro c p t)), some nilB, some ob] := by
  refine ⟨_, rfl, ?_⟩
  have hg := hw.g
  have hp := hw.p
  have hids := hw.ids
  have hf := hx.co
  have wf : IntKind.u64.wrap ((x.co : Nat) : Int) = (x.co : Nat) := wrap_u64 (by omega) (by omega)
  obtain ⟨ob1, hw1, hF⟩ := fixedB_ev (H := [some (cmO x (.ro c p t)), some nilB, some ob]) (a := .sl 2 0 m.length 1) (b := m) (x := x.co) (n := 4) (N := 4) rfl (Byt.whole rfl hw) (by omega) (by omega) (by omega) (by omega)
  refine Tells.of (o := ⟨.normal, (3, .ptr 0 0 0 0) :: (7, .sl 3 0 (m ++ leB 4 x.co).length 0) :: [], [some (cmO x (.ro c p t)), some nilB, some ob, some ob1]⟩) ⟨0, ?_⟩ ⟨rfl, 3, 0, ob1, [], [some nilB, some ob, some ob1], rfl, rfl, rfl, hw1, by omega⟩
  simp only [cmO, Cm.pay] at hF
  have hle := leB_len 4 x.co
  simp (maxSteps := 2000000) -implicitDefEqProofs [-getElem?_pos, List.getElem?_cons_zero, List.getElem?_cons_succ, exec, runOps, dstOk, wantedV, AM.step, evalT, evalO, evalArgs, evalParts, getF, putF, afterRegion, assignV, boxOf, newBox, hasIdsP, keepF, ofVal, ofCell, plen, pesz, callV, builtinV, lenV, binV, unV, arith, shiftI, loadV, storeV, putV, indexAddrV, live, upd, pget, pset, psetA, pagg, retag, retagP, byteAV, freezeP, freezeV, joinTags, joinTag, tags, ids, scalar, cellsLen, eqV, convV, faV, fvV, shiftBy, shiftRo, apFr, cmO, Cm.pay, hF, wf, assignV, hle]

set_option maxRecDepth 100000 in
theorem ap3 (hx : CmOk x) (hw : Rw (.pb m) 1 ob) (hm : m.length + x.txt.length ≤ 80000000) : ∃ code, apO = some code ∧
    Tells (Goes (apP (some (cmO x (.ro c p t))) (m ++ (leB 4 x.st ++ [UInt8.ofNat x.fl, 1, 0, 0, 0])))) X (evT X) 7 0 code (apFr 3 m.length) [some (cmO x (.ro c p t)), some nilB, some ob] := by
  refine ⟨_, rfl, ?_⟩
  have hg := hw.g
  have hp := hw.p
  have hids := hw.ids
  have hf := hx.st
  have hf2 := hx.fl
  have wf : IntKind.u64.wrap ((x.st : Nat) : Int) = (x.st : Nat) := wrap_u64 (by omega) (by omega)
  have hle := leB_len 4 x.st
  obtain ⟨ob1, hw1, hF⟩ := fixedB_ev (H := [some (cmO x (.ro c p t)), some nilB, some ob]) (a := .sl 2 0 m.length 1) (b := m) (x := x.st) (n := 4) (N := 4) rfl (Byt.whole rfl hw) (by omega) (by omega) (by omega) (by omega)
  obtain ⟨ob2, hw2, hA⟩ := app_b (H := [some (cmO x (.ro c p t)), some nilB, some ob, some ob1]) (o := 3) (m := [UInt8.ofNat x.fl, 1, 0, 0, 0]) (src := .ro 1 (.pb [UInt8.ofNat x.fl, 1, 0, 0, 0]) 0) rfl hw1 (.inl rfl) (by simp [hle]; omega)
  rw [List.append_assoc] at hw2
  have hb5 := fun H => bs5 hf2 H
  have hg1 := hw1.g
  have hp1 := hw1.p
  have hids1 := hw1.ids
  rw [List.length_append, hle] at hA
  refine Tells.of (o := ⟨.normal, (3, .ptr 0 0 0 0) :: (7, .sl 3 0 (m ++ (leB 4 x.st ++ [UInt8.ofNat x.fl, 1, 0, 0, 0])).length 1) :: [], [some (cmO x (.ro c p t)), some nilB, some ob, some ob2]⟩) ?_ ⟨rfl, 3, 1, ob2, [], [some nilB, some ob, some ob2], rfl, rfl, rfl, hw2, by omega⟩
  rw [List.length_append, List.length_append, hle]
  simp only [cmO, Cm.pay] at hF hA
  generalize UInt8.ofNat x.fl = fb at *
  refine Run.block ?_ (by simp)
  apply Run.seq
  · (refine ⟨0, ?_⟩; conv => lhs; simp (maxSteps := 2000000) -implicitDefEqProofs [-getElem?_pos, List.getElem?_cons_zero, List.getElem?_cons_succ, exec, runOps, dstOk, wantedV, AM.step, evalT, evalO, evalArgs, evalParts, getF, putF, afterRegion, assignV, boxOf, newBox, hasIdsP, keepF, ofVal, ofCell, plen, pesz, callV, builtinV, lenV, binV, unV, arith, shiftI, loadV, storeV, putV, indexAddrV, live, upd, pget, pset, psetA, pagg, retag, retagP, byteAV, freezeP, freezeV, joinTags, joinTag, tags, ids, scalar, cellsLen, eqV, convV, faV, fvV, shiftBy, shiftRo, apFr])
  refine condF (by simp [evalO, getF]) ?_
  apply Run.seq
  · (refine ⟨0, ?_⟩; conv => lhs; simp (maxSteps := 2000000) -implicitDefEqProofs [-getElem?_pos, List.getElem?_cons_zero, List.getElem?_cons_succ, exec, runOps, dstOk, wantedV, AM.step, evalT, evalO, evalArgs, evalParts, getF, putF, afterRegion, assignV, boxOf, newBox, hasIdsP, keepF, ofVal, ofCell, plen, pesz, callV, builtinV, lenV, binV, unV, arith, shiftI, loadV, storeV, putV, indexAddrV, live, upd, pget, pset, psetA, pagg, retag, retagP, byteAV, freezeP, freezeV, joinTags, joinTag, tags, ids, scalar, cellsLen, eqV, convV, faV, fvV, shiftBy, shiftRo])
  refine condF (by simp [evalO, getF]) ?_
  apply Run.seq
  · (refine ⟨0, ?_⟩; conv => lhs; simp (maxSteps := 2000000) -implicitDefEqProofs [-getElem?_pos, List.getElem?_cons_zero, List.getElem?_cons_succ, exec, runOps, dstOk, wantedV, AM.step, evalT, evalO, evalArgs, evalParts, getF, putF, afterRegion, assignV, boxOf, newBox, hasIdsP, keepF, ofVal, ofCell, plen, pesz, callV, builtinV, lenV, binV, unV, arith, shiftI, loadV, storeV, putV, indexAddrV, live, upd, pget, pset, psetA, pagg, retag, retagP, byteAV, freezeP, freezeV, joinTags, joinTag, tags, ids, scalar, cellsLen, eqV, convV, faV, fvV, shiftBy, shiftRo])
  refine condT (by simp [evalO, getF]) ?_
  apply Run.dy (by simp) keep7_11 (by simp)
  · (conv => lhs; simp (maxSteps := 2000000) -implicitDefEqProofs [-getElem?_pos, List.getElem?_cons_zero, List.getElem?_cons_succ, exec, runOps, dstOk, wantedV, AM.step, evalT, evalO, evalArgs, evalParts, getF, putF, afterRegion, assignV, boxOf, newBox, hasIdsP, keepF, ofVal, ofCell, plen, pesz, callV, builtinV, lenV, binV, unV, arith, shiftI, loadV, storeV, putV, indexAddrV, live, upd, pget, pset, psetA, pagg, retag, retagP, byteAV, freezeP, freezeV, joinTags, joinTag, tags, ids, scalar, cellsLen, eqV, convV, faV, fvV, shiftBy, shiftRo, runD, out1, markOf, freeO, quietO, pushes, isAssign, calledV, touched, mentioned, opVals, touchCall, mentionCall, idsAt, Op.operands, ids, idsL, lendArgs, lendV, lend1, lendL, cmO, Cm.pay, hF, wf, hb5, hA, upd, assignV, reach_none, hg, hp, hids, hg1, hp1, hids1, psub])
    rfl
  · kernel_rfl
  · rfl

set_option maxRecDepth 100000 in
theorem ap4 (hx : CmOk x) (hw : Rw (.pb m) 1 ob) (hm : m.length + x.txt.length ≤ 80000000) : ∃ code, apO = some code ∧
    Tells (Goes (apP (some (cmO x (.ro c p t))) (m ++ (leB 4 x.st ++ leB 2 x.pa)))) X (evT X) 7 0 code (apFr 4 m.length) [some (cmO x (.ro c p t)), some nilB, some ob] := by
  refine ⟨_, rfl, ?_⟩
  have hg := hw.g
  have hp := hw.p
  have hids := hw.ids
  have hf := hx.st
  have hf2 := hx.pa
  have wf : IntKind.u64.wrap ((x.st : Nat) : Int) = (x.st : Nat) := wrap_u64 (by omega) (by omega)
  have wf2 : IntKind.u64.wrap ((x.pa : Nat) : Int) = (x.pa : Nat) := wrap_u64 (by omega) (by omega)
  have hle := leB_len 4 x.st
  have hle2 := leB_len 2 x.pa
  obtain ⟨ob1, hw1, hF⟩ := fixedB_ev (H := [some (cmO x (.ro c p t)), some nilB, some ob]) (a := .sl 2 0 m.length 1) (b := m) (x := x.st) (n := 4) (N := 4) rfl (Byt.whole rfl hw) (by omega) (by omega) (by omega) (by omega)
  obtain ⟨ob2, hw2, hF2⟩ := fixedB_ev (H := [some (cmO x (.ro c p t)), some nilB, some ob, some ob1]) (a := .sl 3 0 (m ++ leB 4 x.st).length 0) (b := m ++ leB 4 x.st) (x := x.pa) (n := 2) (N := 2) rfl (Byt.whole rfl hw1) (by simp [hle]; omega) (by omega) (by omega) (by omega)
  rw [List.append_assoc] at hw2
  have hg1 := hw1.g
  have hp1 := hw1.p
  have hids1 := hw1.ids
  rw [List.length_append, hle] at hF2
  refine Tells.of (o := ⟨.normal, (3, .ptr 0 0 0 0) :: (7, .sl 4 0 (m ++ (leB 4 x.st ++ leB 2 x.pa)).length 0) :: [], [some (cmO x (.ro c p t)), some nilB, some ob, some ob1, some ob2]⟩) ?_ ⟨rfl, 4, 0, ob2, [], [some nilB, some ob, some ob1, some ob2], rfl, rfl, rfl, hw2, by omega⟩
  rw [List.length_append, List.length_append, hle, hle2]
  simp only [cmO, Cm.pay] at hF hF2
  refine Run.block ?_ (by simp)
  apply Run.seq
  · (refine ⟨0, ?_⟩; conv => lhs; simp (maxSteps := 2000000) -implicitDefEqProofs [-getElem?_pos, List.getElem?_cons_zero, List.getElem?_cons_succ, exec, runOps, dstOk, wantedV, AM.step, evalT, evalO, evalArgs, evalParts, getF, putF, afterRegion, assignV, boxOf, newBox, hasIdsP, keepF, ofVal, ofCell, plen, pesz, callV, builtinV, lenV, binV, unV, arith, shiftI, loadV, storeV, putV, indexAddrV, live, upd, pget, pset, psetA, pagg, retag, retagP, byteAV, freezeP, freezeV, joinTags, joinTag, tags, ids, scalar, cellsLen, eqV, convV, faV, fvV, shiftBy, shiftRo, apFr])
  refine condF (by simp [evalO, getF]) ?_
  apply Run.seq
  · (refine ⟨0, ?_⟩; conv => lhs; simp (maxSteps := 2000000) -implicitDefEqProofs [-getElem?_pos, List.getElem?_cons_zero, List.getElem?_cons_succ, exec, runOps, dstOk, wantedV, AM.step, evalT, evalO, evalArgs, evalParts, getF, putF, afterRegion, assignV, boxOf, newBox, hasIdsP, keepF, ofVal, ofCell, plen, pesz, callV, builtinV, lenV, binV, unV, arith, shiftI, loadV, storeV, putV, indexAddrV, live, upd, pget, pset, psetA, pagg, retag, retagP, byteAV, freezeP, freezeV, joinTags, joinTag, tags, ids, scalar, cellsLen, eqV, convV, faV, fvV, shiftBy, shiftRo])
  refine condF (by simp [evalO, getF]) ?_
  apply Run.seq
  · (refine ⟨0, ?_⟩; conv => lhs; simp (maxSteps := 2000000) -implicitDefEqProofs [-getElem?_pos, List.getElem?_cons_zero, List.getElem?_cons_succ, exec, runOps, dstOk, wantedV, AM.step, evalT, evalO, evalArgs, evalParts, getF, putF, afterRegion, assignV, boxOf, newBox, hasIdsP, keepF, ofVal, ofCell, plen, pesz, callV, builtinV, lenV, binV, unV, arith, shiftI, loadV, storeV, putV, indexAddrV, live, upd, pget, pset, psetA, pagg, retag, retagP, byteAV, freezeP, freezeV, joinTags, joinTag, tags, ids, scalar, cellsLen, eqV, convV, faV, fvV, shiftBy, shiftRo])
  refine condF (by simp [evalO, getF]) ?_
  apply Run.seq
  · (refine ⟨0, ?_⟩; conv => lhs; simp (maxSteps := 2000000) -implicitDefEqProofs [-getElem?_pos, List.getElem?_cons_zero, List.getElem?_cons_succ, exec, runOps, dstOk, wantedV, AM.step, evalT, evalO, evalArgs, evalParts, getF, putF, afterRegion, assignV, boxOf, newBox, hasIdsP, keepF, ofVal, ofCell, plen, pesz, callV, builtinV, lenV, binV, unV, arith, shiftI, loadV, storeV, putV, indexAddrV, live, upd, pget, pset, psetA, pagg, retag, retagP, byteAV, freezeP, freezeV, joinTags, joinTag, tags, ids, scalar, cellsLen, eqV, convV, faV, fvV, shiftBy, shiftRo])
  refine condT (by simp [evalO, getF]) ?_
  apply Run.dy (by simp) keep7_13 (by simp)
  · (conv => lhs; simp (maxSteps := 2000000) -implicitDefEqProofs [-getElem?_pos, List.getElem?_cons_zero, List.getElem?_cons_succ, exec, runOps, dstOk, wantedV, AM.step, evalT, evalO, evalArgs, evalParts, getF, putF, afterRegion, assignV, boxOf, newBox, hasIdsP, keepF, ofVal, ofCell, plen, pesz, callV, builtinV, lenV, binV, unV, arith, shiftI, loadV, storeV, putV, indexAddrV, live, upd, pget, pset, psetA, pagg, retag, retagP, byteAV, freezeP, freezeV, joinTags, joinTag, tags, ids, scalar, cellsLen, eqV, convV, faV, fvV, shiftBy, shiftRo, runD, out1, markOf, freeO, quietO, pushes, isAssign, calledV, touched, mentioned, opVals, touchCall, mentionCall, idsAt, Op.operands, ids, idsL, lendArgs, lendV, lend1, lendL, cmO, Cm.pay, hF, wf, hF2, wf2, assignV, reach_none, hg, hp, hids, hg1, hp1, hids1, psub, hle])
    rfl
  · kernel_rfl
  · rfl

set_option maxRecDepth 100000 in
theorem ap5 (hx : CmOk x) (hw : Rw (.pb m) 1 ob) (hm : m.length + x.txt.length ≤ 80000000) : ∃ code, apO = some code ∧
    Tells (Goes (apP (some (cmO x (.ro c p t))) (m ++ (leB 4 x.st)))) X (evT X) 7 0 code (apFr 5 m.length) [some (cmO x (.ro c p t)), some nilB, some ob] := by
  refine ⟨_, rfl, ?_⟩
  have hg := hw.g
  have hp := hw.p
  have hids := hw.ids
  have hf := hx.st
  have wf : IntKind.u64.wrap ((x.st : Nat) : Int) = (x.st : Nat) := wrap_u64 (by omega) (by omega)
  obtain ⟨ob1, hw1, hF⟩ := fixedB_ev (H := [some (cmO x (.ro c p t)), some nilB, some ob]) (a := .sl 2 0 m.length 1) (b := m) (x := x.st) (n := 4) (N := 4) rfl (Byt.whole rfl hw) (by omega) (by omega) (by omega) (by omega)
  refine Tells.of (o := ⟨.normal, (3, .ptr 0 0 0 0) :: (7, .sl 3 0 (m ++ leB 4 x.st).length 0) :: [], [some (cmO x (.ro c p t)), some nilB, some ob, some ob1]⟩) ⟨0, ?_⟩ ⟨rfl, 3, 0, ob1, [], [some nilB, some ob, some ob1], rfl, rfl, rfl, hw1, by omega⟩
  simp only [cmO, Cm.pay] at hF
  have hle := leB_len 4 x.st
  simp (maxSteps := 2000000) -implicitDefEqProofs [-getElem?_pos, List.getElem?_cons_zero, List.getElem?_cons_succ, exec, runOps, dstOk, wantedV, AM.step, evalT, evalO, evalArgs, evalParts, getF, putF, afterRegion, assignV, boxOf, newBox, hasIdsP, keepF, ofVal, ofCell, plen, pesz, callV, builtinV, lenV, binV, unV, arith, shiftI, loadV, storeV, putV, indexAddrV, live, upd, pget, pset, psetA, pagg, retag, retagP, byteAV, freezeP, freezeV, joinTags, joinTag, tags, ids, scalar, cellsLen, eqV, convV, faV, fvV, shiftBy, shiftRo, apFr, cmO, Cm.pay, hF, wf, assignV, hle]

set_option maxRecDepth 100000 in
theorem ap6 (hx : CmOk x) (hw : Rw (.pb m) 1 ob) (hm : m.length + x.txt.length ≤ 80000000) : ∃ code, apO = some code ∧
    Tells (Goes (apP (some (cmO x (.ro c p t))) (m ++ (leB 2 x.op)))) X (evT X) 7 0 code (apFr 6 m.length) [some (cmO x (.ro c p t)), some nilB, some ob] := by
  refine ⟨_, rfl, ?_⟩
  have hg := hw.g
  have hp := hw.p
  have hids := hw.ids
  have hf := hx.op
  have wf : IntKind.u64.wrap ((x.op : Nat) : Int) = (x.op : Nat) := wrap_u64 (by omega) (by omega)
  obtain ⟨ob1, hw1, hF⟩ := fixedB_ev (H := [some (cmO x (.ro c p t)), some nilB, some ob]) (a := .sl 2 0 m.length 1) (b := m) (x := x.op) (n := 2) (N := 2) rfl (Byt.whole rfl hw) (by omega) (by omega) (by omega) (by omega)
  refine Tells.of (o := ⟨.normal, (3, .ptr 0 0 0 0) :: (7, .sl 3 0 (m ++ leB 2 x.op).length 0) :: [], [some (cmO x (.ro c p t)), some nilB, some ob, some ob1]⟩) ⟨0, ?_⟩ ⟨rfl, 3, 0, ob1, [], [some nilB, some ob, some ob1], rfl, rfl, rfl, hw1, by omega⟩
  simp only [cmO, Cm.pay] at hF
  have hle := leB_len 2 x.op
  simp (maxSteps := 2000000) -implicitDefEqProofs [-getElem?_pos, List.getElem?_cons_zero, List.getElem?_cons_succ, exec, runOps, dstOk, wantedV, AM.step, evalT, evalO, evalArgs, evalParts, getF, putF, afterRegion, assignV, boxOf, newBox, hasIdsP, keepF, ofVal, ofCell, plen, pesz, callV, builtinV, lenV, binV, unV, arith, shiftI, loadV, storeV, putV, indexAddrV, live, upd, pget, pset, psetA, pagg, retag, retagP, byteAV, freezeP, freezeV, joinTags, joinTag, tags, ids, scalar, cellsLen, eqV, convV, faV, fvV, shiftBy, shiftRo, apFr, cmO, Cm.pay, hF, wf, assignV, hle]

set_option maxRecDepth 100000 in
theorem ap7 (hx : CmOk x) (hw : Rw (.pb m) 1 ob) (hm : m.length + x.txt.length ≤ 80000000) : ∃ code, apO = some code ∧
    Tells (Goes (apP (some (cmO x (.ro c p t))) (m ++ (leB 4 x.st ++ leB 4 x.co)))) X (evT X) 7 0 code (apFr 7 m.length) [some (cmO x (.ro c p t)), some nilB, some ob] := by
  refine ⟨_, rfl, ?_⟩
  have hg := hw.g
  have hp := hw.p
  have hids := hw.ids
  have hf := hx.st
  have hf2 := hx.co
  have wf : IntKind.u64.wrap ((x.st : Nat) : Int) = (x.st : Nat) := wrap_u64 (by omega) (by omega)
  have wf2 : IntKind.u64.wrap ((x.co : Nat) : Int) = (x.co : Nat) := wrap_u64 (by omega) (by omega)
  have hle := leB_len 4 x.st
  have hle2 := leB_len 4 x.co
  obtain ⟨ob1, hw1, hF⟩ := fixedB_ev (H := [some (cmO x (.ro c p t)), some nilB, some ob]) (a := .sl 2 0 m.length 1) (b := m) (x := x.st) (n := 4) (N := 4) rfl (Byt.whole rfl hw) (by omega) (by omega) (by omega) (by omega)
  obtain ⟨ob2, hw2, hF2⟩ := fixedB_ev (H := [some (cmO x (.ro c p t)), some nilB, some ob, some ob1]) (a := .sl 3 0 (m ++ leB 4 x.st).length 0) (b := m ++ leB 4 x.st) (x := x.co) (n := 4) (N := 4) rfl (Byt.whole rfl hw1) (by simp [hle]; omega) (by omega) (by omega) (by omega)
  rw [List.append_assoc] at hw2
  have hg1 := hw1.g
  have hp1 := hw1.p
  have hids1 := hw1.ids
  rw [List.length_append, hle] at hF2
  refine Tells.of (o := ⟨.normal, (3, .ptr 0 0 0 0) :: (7, .sl 4 0 (m ++ (leB 4 x.st ++ leB 4 x.co)).length 0) :: [], [some (cmO x (.ro c p t)), some nilB, some ob, some ob1, some ob2]⟩) ?_ ⟨rfl, 4, 0, ob2, [], [some nilB, some ob, some ob1, some ob2], rfl, rfl, rfl, hw2, by omega⟩
  rw [List.length_append, List.length_append, hle, hle2]
  simp only [cmO, Cm.pay] at hF hF2
  refine Run.block ?_ (by simp)
  apply Run.seq
  · (refine ⟨0, ?_⟩; conv => lhs; simp (maxSteps := 2000000) -implicitDefEqProofs [-getElem?_pos, List.getElem?_cons_zero, List.getElem?_cons_succ, exec, runOps, dstOk, wantedV, AM.step, evalT, evalO, evalArgs, evalParts, getF, putF, afterRegion, assignV, boxOf, newBox, hasIdsP, keepF, ofVal, ofCell, plen, pesz, callV, builtinV, lenV, binV, unV, arith, shiftI, loadV, storeV, putV, indexAddrV, live, upd, pget, pset, psetA, pagg, retag, retagP, byteAV, freezeP, freezeV, joinTags, joinTag, tags, ids, scalar, cellsLen, eqV, convV, faV, fvV, shiftBy, shiftRo, apFr])
  refine condF (by simp [evalO, getF]) ?_
  apply Run.seq
  · (refine ⟨0, ?_⟩; conv => lhs; simp (maxSteps := 2000000) -implicitDefEqProofs [-getElem?_pos, List.getElem?_cons_zero, List.getElem?_cons_succ, exec, runOps, dstOk, wantedV, AM.step, evalT, evalO, evalArgs, evalParts, getF, putF, afterRegion, assignV, boxOf, newBox, hasIdsP, keepF, ofVal, ofCell, plen, pesz, callV, builtinV, lenV, binV, unV, arith, shiftI, loadV, storeV, putV, indexAddrV, live, upd, pget, pset, psetA, pagg, retag, retagP, byteAV, freezeP, freezeV, joinTags, joinTag, tags, ids, scalar, cellsLen, eqV, convV, faV, fvV, shiftBy, shiftRo])
  refine condF (by simp [evalO, getF]) ?_
  apply Run.seq
  · (refine ⟨0, ?_⟩; conv => lhs; simp (maxSteps := 2000000) -implicitDefEqProofs [-getElem?_pos, List.getElem?_cons_zero, List.getElem?_cons_succ, exec, runOps, dstOk, wantedV, AM.step, evalT, evalO, evalArgs, evalParts, getF, putF, afterRegion, assignV, boxOf, newBox, hasIdsP, keepF, ofVal, ofCell, plen, pesz, callV, builtinV, lenV, binV, unV, arith, shiftI, loadV, storeV, putV, indexAddrV, live, upd, pget, pset, psetA, pagg, retag, retagP, byteAV, freezeP, freezeV, joinTags, joinTag, tags, ids, scalar, cellsLen, eqV, convV, faV, fvV, shiftBy, shiftRo])
  refine condF (by simp [evalO, getF]) ?_
  apply Run.seq
  · (refine ⟨0, ?_⟩; conv => lhs; simp (maxSteps := 2000000) -implicitDefEqProofs [-getElem?_pos, List.getElem?_cons_zero, List.getElem?_cons_succ, exec, runOps, dstOk, wantedV, AM.step, evalT, evalO, evalArgs, evalParts, getF, putF, afterRegion, assignV, boxOf, newBox, hasIdsP, keepF, ofVal, ofCell, plen, pesz, callV, builtinV, lenV, binV, unV, arith, shiftI, loadV, storeV, putV, indexAddrV, live, upd, pget, pset, psetA, pagg, retag, retagP, byteAV, freezeP, freezeV, joinTags, joinTag, tags, ids, scalar, cellsLen, eqV, convV, faV, fvV, shiftBy, shiftRo])
  refine condF (by simp [evalO, getF]) ?_
  apply Run.seq
  · (refine ⟨0, ?_⟩; conv => lhs; simp (maxSteps := 2000000) -implicitDefEqProofs [-getElem?_pos, List.getElem?_cons_zero, List.getElem?_cons_succ, exec, runOps, dstOk, wantedV, AM.step, evalT, evalO, evalArgs, evalParts, getF, putF, afterRegion, assignV, boxOf, newBox, hasIdsP, keepF, ofVal, ofCell, plen, pesz, callV, builtinV, lenV, binV, unV, arith, shiftI, loadV, storeV, putV, indexAddrV, live, upd, pget, pset, psetA, pagg, retag, retagP, byteAV, freezeP, freezeV, joinTags, joinTag, tags, ids, scalar, cellsLen, eqV, convV, faV, fvV, shiftBy, shiftRo])
  refine condF (by simp [evalO, getF]) ?_
  apply Run.seq
  · (refine ⟨0, ?_⟩; conv => lhs; simp (maxSteps := 2000000) -implicitDefEqProofs [-getElem?_pos, List.getElem?_cons_zero, List.getElem?_cons_succ, exec, runOps, dstOk, wantedV, AM.step, evalT, evalO, evalArgs, evalParts, getF, putF, afterRegion, assignV, boxOf, newBox, hasIdsP, keepF, ofVal, ofCell, plen, pesz, callV, builtinV, lenV, binV, unV, arith, shiftI, loadV, storeV, putV, indexAddrV, live, upd, pget, pset, psetA, pagg, retag, retagP, byteAV, freezeP, freezeV, joinTags, joinTag, tags, ids, scalar, cellsLen, eqV, convV, faV, fvV, shiftBy, shiftRo])
  refine condF (by simp [evalO, getF]) ?_
  apply Run.seq
  · (refine ⟨0, ?_⟩; conv => lhs; simp (maxSteps := 2000000) -implicitDefEqProofs [-getElem?_pos, List.getElem?_cons_zero, List.getElem?_cons_succ, exec, runOps, dstOk, wantedV, AM.step, evalT, evalO, evalArgs, evalParts, getF, putF, afterRegion, assignV, boxOf, newBox, hasIdsP, keepF, ofVal, ofCell, plen, pesz, callV, builtinV, lenV, binV, unV, arith, shiftI, loadV, storeV, putV, indexAddrV, live, upd, pget, pset, psetA, pagg, retag, retagP, byteAV, freezeP, freezeV, joinTags, joinTag, tags, ids, scalar, cellsLen, eqV, convV, faV, fvV, shiftBy, shiftRo])
  refine condT (by simp [evalO, getF]) ?_
  apply Run.dy (by simp) keep7_19 (by simp)
  · (conv => lhs; simp (maxSteps := 2000000) -implicitDefEqProofs [-getElem?_pos, List.getElem?_cons_zero, List.getElem?_cons_succ, exec, runOps, dstOk, wantedV, AM.step, evalT, evalO, evalArgs, evalParts, getF, putF, afterRegion, assignV, boxOf, newBox, hasIdsP, keepF, ofVal, ofCell, plen, pesz, callV, builtinV, lenV, binV, unV, arith, shiftI, loadV, storeV, putV, indexAddrV, live, upd, pget, pset, psetA, pagg, retag, retagP, byteAV, freezeP, freezeV, joinTags, joinTag, tags, ids, scalar, cellsLen, eqV, convV, faV, fvV, shiftBy, shiftRo, runD, out1, markOf, freeO, quietO, pushes, isAssign, calledV, touched, mentioned, opVals, touchCall, mentionCall, idsAt, Op.operands, ids, idsL, lendArgs, lendV, lend1, lendL, cmO, Cm.pay, hF, wf, hF2, wf2, assignV, reach_none, hg, hp, hids, hg1, hp1, hids1, psub, hle])
    rfl
  · kernel_rfl
  · rfl

set_option maxRecDepth 100000 in
theorem ap8 (hx : CmOk x) (hw : Rw (.pb m) 1 ob) (hm : m.length + x.txt.length ≤ 80000000) : ∃ code, apO = some code ∧
    Tells (Goes (apP (some (cmO x (.ro c p t))) (m ++ ([])))) X (evT X) 7 0 code (apFr 8 m.length) [some (cmO x (.ro c p t)), some nilB, some ob] := by
  refine ⟨_, rfl, ?_⟩
  have hg := hw.g
  have hp := hw.p
  have hids := hw.ids
  rw [List.append_nil]
  refine Tells.of (o := ⟨.normal, (3, .ptr 0 0 0 0) :: (7, .sl 2 0 m.length 1) :: [(71, .bool false)], [some (cmO x (.ro c p t)), some nilB, some ob]⟩) ⟨0, ?_⟩ ⟨rfl, 2, 1, ob, [(71, .bool false)], [some nilB, some ob], rfl, rfl, rfl, hw, by omega⟩
  simp (maxSteps := 2000000) -implicitDefEqProofs [-getElem?_pos, List.getElem?_cons_zero, List.getElem?_cons_succ, exec, runOps, dstOk, wantedV, AM.step, evalT, evalO, evalArgs, evalParts, getF, putF, afterRegion, assignV, boxOf, newBox, hasIdsP, keepF, ofVal, ofCell, plen, pesz, callV, builtinV, lenV, binV, unV, arith, shiftI, loadV, storeV, putV, indexAddrV, live, upd, pget, pset, psetA, pagg, retag, retagP, byteAV, freezeP, freezeV, joinTags, joinTag, tags, ids, scalar, cellsLen, eqV, convV, faV, fvV, shiftBy, shiftRo, apFr]

end

end Go.Proofs.YtmdciglfpedhgaaDoor
