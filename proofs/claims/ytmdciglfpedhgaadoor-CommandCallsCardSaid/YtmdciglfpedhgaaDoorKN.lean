/- Walks: the document's Append. -/
import Derived.Test.YtmdciglfpedhgaaDoorKM
import Derived.Test.YtmdciglfpedhgaaDoorF2
namespace Go.Proofs.YtmdciglfpedhgaaDoor
open Go.AM
set_option linter.unusedSimpArgs false
set_option linter.unusedVariables false

theorem rfixed_code (c : Nat) (b : List UInt8) (x n : Nat) (hc : c = 0 → b = []) (hb : b.length ≤ 90000000) (h1 : 1 ≤ n) (h8 : n ≤ 8) (hx : x < 256 ^ n) : ∃ code, Tryd.f25.body = some code ∧
    Tells (Rets fun fr H => ∃ o g ob, getF fr 6 = .sl o 0 (b.length + n) g ∧ H[o]? = some (some ob) ∧ Rw (.pb (b ++ leB n x)) g ob) X (evT X) 25 0 code [(0, .ro c (.pb b) 1), (1, .int .u64 (x : Nat)), (2, .int .i64 (n : Nat))] [] := by
  refine ⟨_, rfl, ?_⟩
  obtain ⟨ob, hw, hA⟩ := raf_ev (H := [some nilB]) (a := .ro c (.pb b) 1) (b := b) (x := x) (n := n) (Byt.ro (.inl rfl) hc) hb h1 h8 hx
  refine Tells.of (o := ⟨.ret, [(6, .sl 1 0 (b.length + n) 0)], [some nilB, some ob]⟩) ⟨0, ?_⟩ ⟨rfl, 1, 0, ob, rfl, rfl, hw⟩
  simp (maxSteps := 2000000) -implicitDefEqProofs [-getElem?_pos, List.getElem?_cons_zero, List.getElem?_cons_succ, exec, runOps, dstOk, wantedV, AM.step, evalT, evalO, evalArgs, evalParts, getF, putF, afterRegion, assignV, boxOf, newBox, hasIdsP, keepF, ofVal, ofCell, plen, pesz, callV, builtinV, lenV, binV, unV, arith, shiftI, loadV, storeV, putV, indexAddrV, live, upd, pget, pset, psetA, pagg, retag, retagP, byteAV, freezeP, freezeV, joinTags, joinTag, tags, ids, scalar, cellsLen, eqV, convV, faV, fvV, shiftBy, shiftRo, assignV, emB, hA]

theorem rfixed_ev {H : AM.Heap} {a : AV} {b : List UInt8} {x n : Nat} {N : Int} (hN : N = (n : Nat)) (h : Byt H a b) (hb : b.length ≤ 90000000) (h1 : 1 ≤ n) (h8 : n ≤ 8) (hx : x < 256 ^ n) :
    ∃ ob, Rw (.pb (b ++ leB n x)) 0 ob ∧ evT X 25 [a, .int .u64 (x : Nat), .int .i64 N] H = some (.sl H.length 0 (b.length + n) 0, H ++ [some ob]) := by
  subst hN
  obtain ⟨c, p, xl, hp, hc, hx'⟩ := args_byt (C := X) (f := 25) (i := 0) rfl h (args_flat (i := 1) (a := .int .u64 (x : Nat)) rfl rfl (args_flat (i := 2) (a := .int .i64 (n : Nat)) rfl rfl (args_nil 3)))
  obtain ⟨code, hcode, hr⟩ := rfixed_code c b x n hc hb h1 h8 hx
  obtain ⟨ob, q1, q2⟩ := Ev1.newB (H := H) (n := b.length + n) (l := b ++ leB n x) (rest := []) (evT_below X) Tryd.func25 hcode hx' (by simp [idsL, ids, hp.ids]) (by simp [gtag]) rfl rfl rfl (by
    obtain ⟨o, ⟨he, o1, g, ob, q1, q3, q4⟩, hrun⟩ := hr
    exact ⟨o, ⟨he, o1, g, ob, by show some [getF o.fr 6] = _; rw [q1], q3, q4⟩, by rw [par25, coB hp]; exact hrun⟩)
  exact ⟨ob, q1, evT_eq q2⟩


noncomputable def asO : Option Code := (((((Tryd.f9.body).bind cR).bind cR).bind cR).bind cR).bind cL
noncomputable def abO : Option Code := ((((((Tryd.f9.body).bind cR).bind cR).bind cR).bind cR).bind cR).bind cL
def aFr (o n g : Nat) (j : Int) : AM.Frame := [(3, .ptr 0 0 0 0), (6, .sl o 0 n g), (7, .int .i64 j)]
/-- how a path leaves the frame and the heap: out holds these bytes -/
def apF (l : List UInt8) (fr : AM.Frame) (H : AM.Heap) : Prop :=
  ∃ o g ob, (fr = [(6, .sl o 0 l.length g)] ∨ fr = [(3, .ptr 0 0 0 0), (6, .sl o 0 l.length g), (78, .bool false)]) ∧ H[o]? = some (some ob) ∧ Rw (.pb l) g ob

section
variable (x : Cm) (c t : Nat) (p : AV) (m : List UInt8) (ob : AM.Obj)


set_option maxRecDepth 100000 in
theorem as0 : ∃ code, asO = some code ∧
    Run X (evT X) 9 0 code (aFr 2 m.length 1 0) [some (cmO x (.ro c p t)), some nilB, some ob] ⟨.normal, aFr 2 m.length 1 0 ++ [(30, .bool false)], [some (cmO x (.ro c p t)), some nilB, some ob]⟩ := by
  refine ⟨_, rfl, 0, ?_⟩
  simp (maxSteps := 2000000) -implicitDefEqProofs [-getElem?_pos, List.getElem?_cons_zero, List.getElem?_cons_succ, exec, runOps, dstOk, wantedV, AM.step, evalT, evalO, evalArgs, evalParts, getF, putF, afterRegion, assignV, boxOf, newBox, hasIdsP, keepF, ofVal, ofCell, plen, pesz, callV, builtinV, lenV, binV, unV, arith, shiftI, loadV, storeV, putV, indexAddrV, live, upd, pget, pset, psetA, pagg, retag, retagP, byteAV, freezeP, freezeV, joinTags, joinTag, tags, ids, scalar, cellsLen, eqV, convV, faV, fvV, shiftBy, shiftRo, aFr]

set_option maxRecDepth 100000 in
theorem ab0 (hx : CmOk x) (hp : PB p x.dat) (hw : Rw (.pb m) 1 ob) (hm : m.length + x.txt.length + x.dat.length ≤ 80000000) : ∃ code, abO = some code ∧
    Tells (Goes (apF (m))) X (evT X) 9 0 code (aFr 2 m.length 1 0 ++ [(30, .bool false)]) [some (cmO x (.ro c p t)), some nilB, some ob] := by
  refine ⟨_, rfl, ?_⟩
  refine Tells.of (o := ⟨.normal, (3, .ptr 0 0 0 0) :: (6, .sl 2 0 m.length 1) :: [(78, .bool false)], [some (cmO x (.ro c p t)), some nilB, some ob]⟩) ⟨0, ?_⟩ ⟨rfl, 2, 1, ob, .inr rfl, rfl, hw⟩
  simp (maxSteps := 2000000) -implicitDefEqProofs [-getElem?_pos, List.getElem?_cons_zero, List.getElem?_cons_succ, exec, runOps, dstOk, wantedV, AM.step, evalT, evalO, evalArgs, evalParts, getF, putF, afterRegion, assignV, boxOf, newBox, hasIdsP, keepF, ofVal, ofCell, plen, pesz, callV, builtinV, lenV, binV, unV, arith, shiftI, loadV, storeV, putV, indexAddrV, live, upd, pget, pset, psetA, pagg, retag, retagP, byteAV, freezeP, freezeV, joinTags, joinTag, tags, ids, scalar, cellsLen, eqV, convV, faV, fvV, shiftBy, shiftRo, aFr]

set_option maxRecDepth 100000 in
theorem as1 : ∃ code, asO = some code ∧
    Run X (evT X) 9 0 code (aFr 2 m.length 1 1) [some (cmO x (.ro c p t)), some nilB, some ob] ⟨.normal, aFr 2 m.length 1 1 ++ [(30, .bool false)], [some (cmO x (.ro c p t)), some nilB, some ob]⟩ := by
  refine ⟨_, rfl, 0, ?_⟩
  simp (maxSteps := 2000000) -implicitDefEqProofs [-getElem?_pos, List.getElem?_cons_zero, List.getElem?_cons_succ, exec, runOps, dstOk, wantedV, AM.step, evalT, evalO, evalArgs, evalParts, getF, putF, afterRegion, assignV, boxOf, newBox, hasIdsP, keepF, ofVal, ofCell, plen, pesz, callV, builtinV, lenV, binV, unV, arith, shiftI, loadV, storeV, putV, indexAddrV, live, upd, pget, pset, psetA, pagg, retag, retagP, byteAV, freezeP, freezeV, joinTags, joinTag, tags, ids, scalar, cellsLen, eqV, convV, faV, fvV, shiftBy, shiftRo, aFr]

set_option maxRecDepth 100000 in
theorem ab1 (hx : CmOk x) (hp : PB p x.dat) (hw : Rw (.pb m) 1 ob) (hm : m.length + x.txt.length + x.dat.length ≤ 80000000) : ∃ code, abO = some code ∧
    Tells (Goes (apF (m ++ x.txt))) X (evT X) 9 0 code (aFr 2 m.length 1 1 ++ [(30, .bool false)]) [some (cmO x (.ro c p t)), some nilB, some ob] := by
  refine ⟨_, rfl, ?_⟩
  obtain ⟨ob2, hw2, hA⟩ := app_b (H := [some (cmO x (.ro c p t)), some nilB, some ob]) (o := 2) (m := x.txt) (src := .str x.txt) rfl hw (.inl rfl) (by omega)
  refine Tells.of (o := ⟨.normal, [(6, .sl 2 0 (m ++ x.txt).length 2)], [some (cmO x (.ro c p t)), some nilB, some ob2]⟩) ⟨0, ?_⟩ ⟨rfl, 2, 2, ob2, .inl rfl, rfl, hw2⟩
  simp only [cmO, Cm.pay] at hA
  simp (maxSteps := 2000000) -implicitDefEqProofs [-getElem?_pos, List.getElem?_cons_zero, List.getElem?_cons_succ, exec, runOps, dstOk, wantedV, AM.step, evalT, evalO, evalArgs, evalParts, getF, putF, afterRegion, assignV, boxOf, newBox, hasIdsP, keepF, ofVal, ofCell, plen, pesz, callV, builtinV, lenV, binV, unV, arith, shiftI, loadV, storeV, putV, indexAddrV, live, upd, pget, pset, psetA, pagg, retag, retagP, byteAV, freezeP, freezeV, joinTags, joinTag, tags, ids, scalar, cellsLen, eqV, convV, faV, fvV, shiftBy, shiftRo, aFr, cmO, Cm.pay, hA, upd, assignV]

set_option maxRecDepth 100000 in
theorem as2 : ∃ code, asO = some code ∧
    Run X (evT X) 9 0 code (aFr 2 m.length 1 2) [some (cmO x (.ro c p t)), some nilB, some ob] ⟨.normal, aFr 2 m.length 1 2 ++ [(30, .bool false)], [some (cmO x (.ro c p t)), some nilB, some ob]⟩ := by
  refine ⟨_, rfl, 0, ?_⟩
  simp (maxSteps := 2000000) -implicitDefEqProofs [-getElem?_pos, List.getElem?_cons_zero, List.getElem?_cons_succ, exec, runOps, dstOk, wantedV, AM.step, evalT, evalO, evalArgs, evalParts, getF, putF, afterRegion, assignV, boxOf, newBox, hasIdsP, keepF, ofVal, ofCell, plen, pesz, callV, builtinV, lenV, binV, unV, arith, shiftI, loadV, storeV, putV, indexAddrV, live, upd, pget, pset, psetA, pagg, retag, retagP, byteAV, freezeP, freezeV, joinTags, joinTag, tags, ids, scalar, cellsLen, eqV, convV, faV, fvV, shiftBy, shiftRo, aFr]

set_option maxRecDepth 100000 in
theorem ab2 (hx : CmOk x) (hp : PB p x.dat) (hw : Rw (.pb m) 1 ob) (hm : m.length + x.txt.length + x.dat.length ≤ 80000000) : ∃ code, abO = some code ∧
    Tells (Goes (apF (m ++ leB 4 x.co))) X (evT X) 9 0 code (aFr 2 m.length 1 2 ++ [(30, .bool false)]) [some (cmO x (.ro c p t)), some nilB, some ob] := by
  refine ⟨_, rfl, ?_⟩
  have hf := hx.co
  have wf : IntKind.u64.wrap ((x.co : Nat) : Int) = (x.co : Nat) := wrap_u64 (by omega) (by omega)
  obtain ⟨ob2, hw2, hF⟩ := rfixed_ev (H := [some (cmO x (.ro c p t)), some nilB, some ob]) (a := .sl 2 0 m.length 1) (b := m) (x := x.co) (n := 4) (N := 4) rfl (Byt.whole rfl hw) (by omega) (by omega) (by omega) (by omega)
  refine Tells.of (o := ⟨.normal, [(6, .sl 3 0 (m ++ leB 4 x.co).length 0)], [some (cmO x (.ro c p t)), some nilB, some ob, some ob2]⟩) ⟨0, ?_⟩ ⟨rfl, 3, 0, ob2, .inl rfl, rfl, hw2⟩
  have hle := leB_len 4 x.co
  simp only [cmO, Cm.pay] at hF
  simp (maxSteps := 2000000) -implicitDefEqProofs [-getElem?_pos, List.getElem?_cons_zero, List.getElem?_cons_succ, exec, runOps, dstOk, wantedV, AM.step, evalT, evalO, evalArgs, evalParts, getF, putF, afterRegion, assignV, boxOf, newBox, hasIdsP, keepF, ofVal, ofCell, plen, pesz, callV, builtinV, lenV, binV, unV, arith, shiftI, loadV, storeV, putV, indexAddrV, live, upd, pget, pset, psetA, pagg, retag, retagP, byteAV, freezeP, freezeV, joinTags, joinTag, tags, ids, scalar, cellsLen, eqV, convV, faV, fvV, shiftBy, shiftRo, aFr, cmO, Cm.pay, hF, wf, assignV, hle]

set_option maxRecDepth 100000 in
theorem as3 (hx : CmOk x) (hw : Rw (.pb m) 1 ob) (hm : m.length ≤ 80000000) : ∃ code, asO = some code ∧ ∃ ob1, Rw (.pb (m ++ leB 4 x.st)) 0 ob1 ∧
    Run X (evT X) 9 0 code (aFr 2 m.length 1 3) [some (cmO x (.ro c p t)), some nilB, some ob] ⟨.normal, aFr 3 (m ++ leB 4 x.st).length 0 3, [some (cmO x (.ro c p t)), some nilB, some ob, some ob1]⟩ := by
  refine ⟨_, rfl, ?_⟩
  have hf := hx.st
  have wf : IntKind.u64.wrap ((x.st : Nat) : Int) = (x.st : Nat) := wrap_u64 (by omega) (by omega)
  obtain ⟨ob1, hw1, hF⟩ := rfixed_ev (H := [some (cmO x (.ro c p t)), some nilB, some ob]) (a := .sl 2 0 m.length 1) (b := m) (x := x.st) (n := 4) (N := 4) rfl (Byt.whole rfl hw) (by omega) (by omega) (by omega) (by omega)
  refine ⟨ob1, hw1, 0, ?_⟩
  have hle := leB_len 4 x.st
  simp only [cmO, Cm.pay] at hF
  simp (maxSteps := 2000000) -implicitDefEqProofs [-getElem?_pos, List.getElem?_cons_zero, List.getElem?_cons_succ, exec, runOps, dstOk, wantedV, AM.step, evalT, evalO, evalArgs, evalParts, getF, putF, afterRegion, assignV, boxOf, newBox, hasIdsP, keepF, ofVal, ofCell, plen, pesz, callV, builtinV, lenV, binV, unV, arith, shiftI, loadV, storeV, putV, indexAddrV, live, upd, pget, pset, psetA, pagg, retag, retagP, byteAV, freezeP, freezeV, joinTags, joinTag, tags, ids, scalar, cellsLen, eqV, convV, faV, fvV, shiftBy, shiftRo, aFr, cmO, Cm.pay, hF, wf, assignV, hle]

set_option maxRecDepth 100000 in
theorem ab3 (ob1 : AM.Obj) (hx : CmOk x) (hp : PB p x.dat) (hw : Rw (.pb m) 0 ob1) (hm : m.length + x.txt.length + x.dat.length ≤ 80000000) : ∃ code, abO = some code ∧
    Tells (Goes (apF (m ++ [UInt8.ofNat x.fl, 1, 0, 0, 0] ++ x.dat))) X (evT X) 9 0 code (aFr 3 m.length 0 3) [some (cmO x (.ro c p t)), some nilB, some ob, some ob1] := by
  refine ⟨_, rfl, ?_⟩
  have hf := hx.fl
  have hb5 := fun H => bs5 hf H
  obtain ⟨ob2, hw2, hA⟩ := app_b (H := [some (cmO x (.ro c p t)), some nilB, some ob, some ob1]) (o := 3) (m := [UInt8.ofNat x.fl, 1, 0, 0, 0]) (src := .ro 1 (.pb [UInt8.ofNat x.fl, 1, 0, 0, 0]) 0) rfl hw (.inl rfl) (by simp; omega)
  obtain ⟨ob3, hw3, hA2⟩ := app_b (H := [some (cmO x (.ro c p t)), some nilB, some ob, some ob2]) (o := 3) (m := x.dat) (src := .ro c p t) rfl hw2 (srcB hp) (by simp; omega)
  have hl5 : (m ++ [UInt8.ofNat x.fl, 1, 0, 0, 0]).length = m.length + 5 := by simp
  rw [hl5] at hA2
  have hg := hw.g
  have hpp := hw.p
  have hids := hw.ids
  have hg2 := hw2.g
  have hp2 := hw2.p
  have hids2 := hw2.ids
  have hpl := hp.plen
  refine Tells.of (o := ⟨.normal, [(6, .sl 3 0 (m ++ [UInt8.ofNat x.fl, 1, 0, 0, 0] ++ x.dat).length 2)], [some (cmO x (.ro c p t)), some nilB, some ob, some ob3]⟩) ?_ ⟨rfl, 3, 2, ob3, .inl rfl, rfl, hw3⟩
  rw [List.length_append, hl5]
  simp only [cmO, Cm.pay] at hA hA2
  generalize UInt8.ofNat x.fl = fb at *
  refine Run.block ?_ (by simp)
  apply Run.seq
  · (refine ⟨0, ?_⟩; conv => lhs; simp (maxSteps := 2000000) -implicitDefEqProofs [-getElem?_pos, List.getElem?_cons_zero, List.getElem?_cons_succ, exec, runOps, dstOk, wantedV, AM.step, evalT, evalO, evalArgs, evalParts, getF, putF, afterRegion, assignV, boxOf, newBox, hasIdsP, keepF, ofVal, ofCell, plen, pesz, callV, builtinV, lenV, binV, unV, arith, shiftI, loadV, storeV, putV, indexAddrV, live, upd, pget, pset, psetA, pagg, retag, retagP, byteAV, freezeP, freezeV, joinTags, joinTag, tags, ids, scalar, cellsLen, eqV, convV, faV, fvV, shiftBy, shiftRo, aFr])
  refine condF (by simp [evalO, getF]) ?_
  apply Run.seq
  · apply Run.seq
    · (refine ⟨0, ?_⟩; conv => lhs; simp (maxSteps := 2000000) -implicitDefEqProofs [-getElem?_pos, List.getElem?_cons_zero, List.getElem?_cons_succ, exec, runOps, dstOk, wantedV, AM.step, evalT, evalO, evalArgs, evalParts, getF, putF, afterRegion, assignV, boxOf, newBox, hasIdsP, keepF, ofVal, ofCell, plen, pesz, callV, builtinV, lenV, binV, unV, arith, shiftI, loadV, storeV, putV, indexAddrV, live, upd, pget, pset, psetA, pagg, retag, retagP, byteAV, freezeP, freezeV, joinTags, joinTag, tags, ids, scalar, cellsLen, eqV, convV, faV, fvV, shiftBy, shiftRo])
    refine condF (by simp [evalO, getF]) ?_
    (refine ⟨0, ?_⟩; conv => lhs; simp (maxSteps := 2000000) -implicitDefEqProofs [-getElem?_pos, List.getElem?_cons_zero, List.getElem?_cons_succ, exec, runOps, dstOk, wantedV, AM.step, evalT, evalO, evalArgs, evalParts, getF, putF, afterRegion, assignV, boxOf, newBox, hasIdsP, keepF, ofVal, ofCell, plen, pesz, callV, builtinV, lenV, binV, unV, arith, shiftI, loadV, storeV, putV, indexAddrV, live, upd, pget, pset, psetA, pagg, retag, retagP, byteAV, freezeP, freezeV, joinTags, joinTag, tags, ids, scalar, cellsLen, eqV, convV, faV, fvV, shiftBy, shiftRo])
  refine condF (by simp [evalO, getF]) ?_
  apply Run.seq
  · (refine ⟨0, ?_⟩; conv => lhs; simp (maxSteps := 2000000) -implicitDefEqProofs [-getElem?_pos, List.getElem?_cons_zero, List.getElem?_cons_succ, exec, runOps, dstOk, wantedV, AM.step, evalT, evalO, evalArgs, evalParts, getF, putF, afterRegion, assignV, boxOf, newBox, hasIdsP, keepF, ofVal, ofCell, plen, pesz, callV, builtinV, lenV, binV, unV, arith, shiftI, loadV, storeV, putV, indexAddrV, live, upd, pget, pset, psetA, pagg, retag, retagP, byteAV, freezeP, freezeV, joinTags, joinTag, tags, ids, scalar, cellsLen, eqV, convV, faV, fvV, shiftBy, shiftRo])
  refine condT (by simp [evalO, getF]) ?_
  apply Run.dy (by simp) keep9_14 (by simp)
  · (conv => lhs; simp (maxSteps := 2000000) -implicitDefEqProofs [-getElem?_pos, List.getElem?_cons_zero, List.getElem?_cons_succ, exec, runOps, dstOk, wantedV, AM.step, evalT, evalO, evalArgs, evalParts, getF, putF, afterRegion, assignV, boxOf, newBox, hasIdsP, keepF, ofVal, ofCell, plen, pesz, callV, builtinV, lenV, binV, unV, arith, shiftI, loadV, storeV, putV, indexAddrV, live, upd, pget, pset, psetA, pagg, retag, retagP, byteAV, freezeP, freezeV, joinTags, joinTag, tags, ids, scalar, cellsLen, eqV, convV, faV, fvV, shiftBy, shiftRo, runD, out1, markOf, freeO, quietO, pushes, isAssign, calledV, touched, mentioned, opVals, touchCall, mentionCall, idsAt, Op.operands, ids, idsL, lendArgs, lendV, lend1, lendL, cmO, Cm.pay, hb5, hA, hA2, upd, assignV, reach_none, hg, hpp, hids, hg2, hp2, hids2, psub])
    rfl
  · kernel_rfl
  · rfl

set_option maxRecDepth 100000 in
theorem as4 (hx : CmOk x) (hw : Rw (.pb m) 1 ob) (hm : m.length ≤ 80000000) : ∃ code, asO = some code ∧ ∃ ob1, Rw (.pb (m ++ leB 4 x.st)) 0 ob1 ∧
    Run X (evT X) 9 0 code (aFr 2 m.length 1 4) [some (cmO x (.ro c p t)), some nilB, some ob] ⟨.normal, aFr 3 (m ++ leB 4 x.st).length 0 4, [some (cmO x (.ro c p t)), some nilB, some ob, some ob1]⟩ := by
  refine ⟨_, rfl, ?_⟩
  have hf := hx.st
  have wf : IntKind.u64.wrap ((x.st : Nat) : Int) = (x.st : Nat) := wrap_u64 (by omega) (by omega)
  obtain ⟨ob1, hw1, hF⟩ := rfixed_ev (H := [some (cmO x (.ro c p t)), some nilB, some ob]) (a := .sl 2 0 m.length 1) (b := m) (x := x.st) (n := 4) (N := 4) rfl (Byt.whole rfl hw) (by omega) (by omega) (by omega) (by omega)
  refine ⟨ob1, hw1, 0, ?_⟩
  have hle := leB_len 4 x.st
  simp only [cmO, Cm.pay] at hF
  simp (maxSteps := 2000000) -implicitDefEqProofs [-getElem?_pos, List.getElem?_cons_zero, List.getElem?_cons_succ, exec, runOps, dstOk, wantedV, AM.step, evalT, evalO, evalArgs, evalParts, getF, putF, afterRegion, assignV, boxOf, newBox, hasIdsP, keepF, ofVal, ofCell, plen, pesz, callV, builtinV, lenV, binV, unV, arith, shiftI, loadV, storeV, putV, indexAddrV, live, upd, pget, pset, psetA, pagg, retag, retagP, byteAV, freezeP, freezeV, joinTags, joinTag, tags, ids, scalar, cellsLen, eqV, convV, faV, fvV, shiftBy, shiftRo, aFr, cmO, Cm.pay, hF, wf, assignV, hle]

set_option maxRecDepth 100000 in
theorem ab4 (ob1 : AM.Obj) (hx : CmOk x) (hp : PB p x.dat) (hw : Rw (.pb m) 0 ob1) (hm : m.length + x.txt.length + x.dat.length ≤ 80000000) : ∃ code, abO = some code ∧
    Tells (Goes (apF (m ++ leB 2 x.pa ++ x.dat))) X (evT X) 9 0 code (aFr 3 m.length 0 4) [some (cmO x (.ro c p t)), some nilB, some ob, some ob1] := by
  refine ⟨_, rfl, ?_⟩
  have hf := hx.pa
  have wf : IntKind.u64.wrap ((x.pa : Nat) : Int) = (x.pa : Nat) := wrap_u64 (by omega) (by omega)
  obtain ⟨ob2, hw2, hF⟩ := rfixed_ev (H := [some (cmO x (.ro c p t)), some nilB, some ob, some ob1]) (a := .sl 3 0 m.length 0) (b := m) (x := x.pa) (n := 2) (N := 2) rfl (Byt.whole rfl hw) (by omega) (by omega) (by omega) (by omega)
  have hle := leB_len 2 x.pa
  obtain ⟨ob3, hw3, hA2⟩ := app_b (H := [some (cmO x (.ro c p t)), some nilB, some ob, some ob1, some ob2]) (o := 4) (m := x.dat) (src := .ro c p t) rfl hw2 (srcB hp) (by simp [hle]; omega)
  have hl5 : (m ++ leB 2 x.pa).length = m.length + 2 := by simp [hle]
  rw [hl5] at hA2
  have hg := hw.g
  have hpp := hw.p
  have hids := hw.ids
  have hg2 := hw2.g
  have hp2 := hw2.p
  have hids2 := hw2.ids
  refine Tells.of (o := ⟨.normal, [(6, .sl 4 0 (m ++ leB 2 x.pa ++ x.dat).length 1)], [some (cmO x (.ro c p t)), some nilB, some ob, some ob1, some ob3]⟩) ?_ ⟨rfl, 4, 1, ob3, .inl rfl, rfl, hw3⟩
  rw [List.length_append, hl5]
  simp only [cmO, Cm.pay] at hF hA2
  refine Run.block ?_ (by simp)
  apply Run.seq
  · (refine ⟨0, ?_⟩; conv => lhs; simp (maxSteps := 2000000) -implicitDefEqProofs [-getElem?_pos, List.getElem?_cons_zero, List.getElem?_cons_succ, exec, runOps, dstOk, wantedV, AM.step, evalT, evalO, evalArgs, evalParts, getF, putF, afterRegion, assignV, boxOf, newBox, hasIdsP, keepF, ofVal, ofCell, plen, pesz, callV, builtinV, lenV, binV, unV, arith, shiftI, loadV, storeV, putV, indexAddrV, live, upd, pget, pset, psetA, pagg, retag, retagP, byteAV, freezeP, freezeV, joinTags, joinTag, tags, ids, scalar, cellsLen, eqV, convV, faV, fvV, shiftBy, shiftRo, aFr])
  refine condF (by simp [evalO, getF]) ?_
  apply Run.seq
  · apply Run.seq
    · (refine ⟨0, ?_⟩; conv => lhs; simp (maxSteps := 2000000) -implicitDefEqProofs [-getElem?_pos, List.getElem?_cons_zero, List.getElem?_cons_succ, exec, runOps, dstOk, wantedV, AM.step, evalT, evalO, evalArgs, evalParts, getF, putF, afterRegion, assignV, boxOf, newBox, hasIdsP, keepF, ofVal, ofCell, plen, pesz, callV, builtinV, lenV, binV, unV, arith, shiftI, loadV, storeV, putV, indexAddrV, live, upd, pget, pset, psetA, pagg, retag, retagP, byteAV, freezeP, freezeV, joinTags, joinTag, tags, ids, scalar, cellsLen, eqV, convV, faV, fvV, shiftBy, shiftRo])
    refine condF (by simp [evalO, getF]) ?_
    (refine ⟨0, ?_⟩; conv => lhs; simp (maxSteps := 2000000) -implicitDefEqProofs [-getElem?_pos, List.getElem?_cons_zero, List.getElem?_cons_succ, exec, runOps, dstOk, wantedV, AM.step, evalT, evalO, evalArgs, evalParts, getF, putF, afterRegion, assignV, boxOf, newBox, hasIdsP, keepF, ofVal, ofCell, plen, pesz, callV, builtinV, lenV, binV, unV, arith, shiftI, loadV, storeV, putV, indexAddrV, live, upd, pget, pset, psetA, pagg, retag, retagP, byteAV, freezeP, freezeV, joinTags, joinTag, tags, ids, scalar, cellsLen, eqV, convV, faV, fvV, shiftBy, shiftRo])
  refine condF (by simp [evalO, getF]) ?_
  apply Run.seq
  · (refine ⟨0, ?_⟩; conv => lhs; simp (maxSteps := 2000000) -implicitDefEqProofs [-getElem?_pos, List.getElem?_cons_zero, List.getElem?_cons_succ, exec, runOps, dstOk, wantedV, AM.step, evalT, evalO, evalArgs, evalParts, getF, putF, afterRegion, assignV, boxOf, newBox, hasIdsP, keepF, ofVal, ofCell, plen, pesz, callV, builtinV, lenV, binV, unV, arith, shiftI, loadV, storeV, putV, indexAddrV, live, upd, pget, pset, psetA, pagg, retag, retagP, byteAV, freezeP, freezeV, joinTags, joinTag, tags, ids, scalar, cellsLen, eqV, convV, faV, fvV, shiftBy, shiftRo])
  refine condF (by simp [evalO, getF]) ?_
  apply Run.seq
  · (refine ⟨0, ?_⟩; conv => lhs; simp (maxSteps := 2000000) -implicitDefEqProofs [-getElem?_pos, List.getElem?_cons_zero, List.getElem?_cons_succ, exec, runOps, dstOk, wantedV, AM.step, evalT, evalO, evalArgs, evalParts, getF, putF, afterRegion, assignV, boxOf, newBox, hasIdsP, keepF, ofVal, ofCell, plen, pesz, callV, builtinV, lenV, binV, unV, arith, shiftI, loadV, storeV, putV, indexAddrV, live, upd, pget, pset, psetA, pagg, retag, retagP, byteAV, freezeP, freezeV, joinTags, joinTag, tags, ids, scalar, cellsLen, eqV, convV, faV, fvV, shiftBy, shiftRo])
  refine condT (by simp [evalO, getF]) ?_
  apply Run.dy (by simp) keep9_16 (by simp)
  · (conv => lhs; simp (maxSteps := 2000000) -implicitDefEqProofs [-getElem?_pos, List.getElem?_cons_zero, List.getElem?_cons_succ, exec, runOps, dstOk, wantedV, AM.step, evalT, evalO, evalArgs, evalParts, getF, putF, afterRegion, assignV, boxOf, newBox, hasIdsP, keepF, ofVal, ofCell, plen, pesz, callV, builtinV, lenV, binV, unV, arith, shiftI, loadV, storeV, putV, indexAddrV, live, upd, pget, pset, psetA, pagg, retag, retagP, byteAV, freezeP, freezeV, joinTags, joinTag, tags, ids, scalar, cellsLen, eqV, convV, faV, fvV, shiftBy, shiftRo, runD, out1, markOf, freeO, quietO, pushes, isAssign, calledV, touched, mentioned, opVals, touchCall, mentionCall, idsAt, Op.operands, ids, idsL, lendArgs, lendV, lend1, lendL, cmO, Cm.pay, hF, wf, hA2, upd, assignV, reach_none, hg, hpp, hids, hg2, hp2, hids2, psub])
    rfl
  · kernel_rfl
  · rfl

set_option maxRecDepth 100000 in
theorem as5 (hx : CmOk x) (hw : Rw (.pb m) 1 ob) (hm : m.length ≤ 80000000) : ∃ code, asO = some code ∧ ∃ ob1, Rw (.pb (m ++ leB 4 x.st)) 0 ob1 ∧
    Run X (evT X) 9 0 code (aFr 2 m.length 1 5) [some (cmO x (.ro c p t)), some nilB, some ob] ⟨.normal, aFr 3 (m ++ leB 4 x.st).length 0 5, [some (cmO x (.ro c p t)), some nilB, some ob, some ob1]⟩ := by
  refine ⟨_, rfl, ?_⟩
  have hf := hx.st
  have wf : IntKind.u64.wrap ((x.st : Nat) : Int) = (x.st : Nat) := wrap_u64 (by omega) (by omega)
  obtain ⟨ob1, hw1, hF⟩ := rfixed_ev (H := [some (cmO x (.ro c p t)), some nilB, some ob]) (a := .sl 2 0 m.length 1) (b := m) (x := x.st) (n := 4) (N := 4) rfl (Byt.whole rfl hw) (by omega) (by omega) (by omega) (by omega)
  refine ⟨ob1, hw1, 0, ?_⟩
  have hle := leB_len 4 x.st
  simp only [cmO, Cm.pay] at hF
  simp (maxSteps := 2000000) -implicitDefEqProofs [-getElem?_pos, List.getElem?_cons_zero, List.getElem?_cons_succ, exec, runOps, dstOk, wantedV, AM.step, evalT, evalO, evalArgs, evalParts, getF, putF, afterRegion, assignV, boxOf, newBox, hasIdsP, keepF, ofVal, ofCell, plen, pesz, callV, builtinV, lenV, binV, unV, arith, shiftI, loadV, storeV, putV, indexAddrV, live, upd, pget, pset, psetA, pagg, retag, retagP, byteAV, freezeP, freezeV, joinTags, joinTag, tags, ids, scalar, cellsLen, eqV, convV, faV, fvV, shiftBy, shiftRo, aFr, cmO, Cm.pay, hF, wf, assignV, hle]

set_option maxRecDepth 100000 in
theorem ab5 (ob1 : AM.Obj) (hx : CmOk x) (hp : PB p x.dat) (hw : Rw (.pb m) 0 ob1) (hm : m.length + x.txt.length + x.dat.length ≤ 80000000) : ∃ code, abO = some code ∧
    Tells (Goes (apF (m))) X (evT X) 9 0 code (aFr 3 m.length 0 5) [some (cmO x (.ro c p t)), some nilB, some ob, some ob1] := by
  refine ⟨_, rfl, ?_⟩
  refine Tells.of (o := ⟨.normal, (3, .ptr 0 0 0 0) :: (6, .sl 3 0 m.length 0) :: [(78, .bool false)], [some (cmO x (.ro c p t)), some nilB, some ob, some ob1]⟩) ⟨0, ?_⟩ ⟨rfl, 3, 0, ob1, .inr rfl, rfl, hw⟩
  simp (maxSteps := 2000000) -implicitDefEqProofs [-getElem?_pos, List.getElem?_cons_zero, List.getElem?_cons_succ, exec, runOps, dstOk, wantedV, AM.step, evalT, evalO, evalArgs, evalParts, getF, putF, afterRegion, assignV, boxOf, newBox, hasIdsP, keepF, ofVal, ofCell, plen, pesz, callV, builtinV, lenV, binV, unV, arith, shiftI, loadV, storeV, putV, indexAddrV, live, upd, pget, pset, psetA, pagg, retag, retagP, byteAV, freezeP, freezeV, joinTags, joinTag, tags, ids, scalar, cellsLen, eqV, convV, faV, fvV, shiftBy, shiftRo, aFr]

set_option maxRecDepth 100000 in
theorem as6 : ∃ code, asO = some code ∧
    Run X (evT X) 9 0 code (aFr 2 m.length 1 6) [some (cmO x (.ro c p t)), some nilB, some ob] ⟨.normal, aFr 2 m.length 1 6 ++ [(30, .bool false)], [some (cmO x (.ro c p t)), some nilB, some ob]⟩ := by
  refine ⟨_, rfl, 0, ?_⟩
  simp (maxSteps := 2000000) -implicitDefEqProofs [-getElem?_pos, List.getElem?_cons_zero, List.getElem?_cons_succ, exec, runOps, dstOk, wantedV, AM.step, evalT, evalO, evalArgs, evalParts, getF, putF, afterRegion, assignV, boxOf, newBox, hasIdsP, keepF, ofVal, ofCell, plen, pesz, callV, builtinV, lenV, binV, unV, arith, shiftI, loadV, storeV, putV, indexAddrV, live, upd, pget, pset, psetA, pagg, retag, retagP, byteAV, freezeP, freezeV, joinTags, joinTag, tags, ids, scalar, cellsLen, eqV, convV, faV, fvV, shiftBy, shiftRo, aFr]

set_option maxRecDepth 100000 in
theorem ab6 (hx : CmOk x) (hp : PB p x.dat) (hw : Rw (.pb m) 1 ob) (hm : m.length + x.txt.length + x.dat.length ≤ 80000000) : ∃ code, abO = some code ∧
    Tells (Goes (apF (m ++ leB 2 x.op))) X (evT X) 9 0 code (aFr 2 m.length 1 6 ++ [(30, .bool false)]) [some (cmO x (.ro c p t)), some nilB, some ob] := by
  refine ⟨_, rfl, ?_⟩
  have hf := hx.op
  have wf : IntKind.u64.wrap ((x.op : Nat) : Int) = (x.op : Nat) := wrap_u64 (by omega) (by omega)
  obtain ⟨ob2, hw2, hF⟩ := rfixed_ev (H := [some (cmO x (.ro c p t)), some nilB, some ob]) (a := .sl 2 0 m.length 1) (b := m) (x := x.op) (n := 2) (N := 2) rfl (Byt.whole rfl hw) (by omega) (by omega) (by omega) (by omega)
  refine Tells.of (o := ⟨.normal, [(6, .sl 3 0 (m ++ leB 2 x.op).length 0)], [some (cmO x (.ro c p t)), some nilB, some ob, some ob2]⟩) ⟨0, ?_⟩ ⟨rfl, 3, 0, ob2, .inl rfl, rfl, hw2⟩
  have hle := leB_len 2 x.op
  simp only [cmO, Cm.pay] at hF
  simp (maxSteps := 2000000) -implicitDefEqProofs [-getElem?_pos, List.getElem?_cons_zero, List.getElem?_cons_succ, exec, runOps, dstOk, wantedV, AM.step, evalT, evalO, evalArgs, evalParts, getF, putF, afterRegion, assignV, boxOf, newBox, hasIdsP, keepF, ofVal, ofCell, plen, pesz, callV, builtinV, lenV, binV, unV, arith, shiftI, loadV, storeV, putV, indexAddrV, live, upd, pget, pset, psetA, pagg, retag, retagP, byteAV, freezeP, freezeV, joinTags, joinTag, tags, ids, scalar, cellsLen, eqV, convV, faV, fvV, shiftBy, shiftRo, aFr, cmO, Cm.pay, hF, wf, assignV, hle]

set_option maxRecDepth 100000 in
theorem as7 (hx : CmOk x) (hw : Rw (.pb m) 1 ob) (hm : m.length ≤ 80000000) : ∃ code, asO = some code ∧ ∃ ob1, Rw (.pb (m ++ leB 4 x.st)) 0 ob1 ∧
    Run X (evT X) 9 0 code (aFr 2 m.length 1 7) [some (cmO x (.ro c p t)), some nilB, some ob] ⟨.normal, aFr 3 (m ++ leB 4 x.st).length 0 7, [some (cmO x (.ro c p t)), some nilB, some ob, some ob1]⟩ := by
  refine ⟨_, rfl, ?_⟩
  have hf := hx.st
  have wf : IntKind.u64.wrap ((x.st : Nat) : Int) = (x.st : Nat) := wrap_u64 (by omega) (by omega)
  obtain ⟨ob1, hw1, hF⟩ := rfixed_ev (H := [some (cmO x (.ro c p t)), some nilB, some ob]) (a := .sl 2 0 m.length 1) (b := m) (x := x.st) (n := 4) (N := 4) rfl (Byt.whole rfl hw) (by omega) (by omega) (by omega) (by omega)
  refine ⟨ob1, hw1, 0, ?_⟩
  have hle := leB_len 4 x.st
  simp only [cmO, Cm.pay] at hF
  simp (maxSteps := 2000000) -implicitDefEqProofs [-getElem?_pos, List.getElem?_cons_zero, List.getElem?_cons_succ, exec, runOps, dstOk, wantedV, AM.step, evalT, evalO, evalArgs, evalParts, getF, putF, afterRegion, assignV, boxOf, newBox, hasIdsP, keepF, ofVal, ofCell, plen, pesz, callV, builtinV, lenV, binV, unV, arith, shiftI, loadV, storeV, putV, indexAddrV, live, upd, pget, pset, psetA, pagg, retag, retagP, byteAV, freezeP, freezeV, joinTags, joinTag, tags, ids, scalar, cellsLen, eqV, convV, faV, fvV, shiftBy, shiftRo, aFr, cmO, Cm.pay, hF, wf, assignV, hle]

set_option maxRecDepth 100000 in
theorem ab7 (ob1 : AM.Obj) (hx : CmOk x) (hp : PB p x.dat) (hw : Rw (.pb m) 0 ob1) (hm : m.length + x.txt.length + x.dat.length ≤ 80000000) : ∃ code, abO = some code ∧
    Tells (Goes (apF (m ++ leB 4 x.co))) X (evT X) 9 0 code (aFr 3 m.length 0 7) [some (cmO x (.ro c p t)), some nilB, some ob, some ob1] := by
  refine ⟨_, rfl, ?_⟩
  have hf := hx.co
  have wf : IntKind.u64.wrap ((x.co : Nat) : Int) = (x.co : Nat) := wrap_u64 (by omega) (by omega)
  obtain ⟨ob2, hw2, hF⟩ := rfixed_ev (H := [some (cmO x (.ro c p t)), some nilB, some ob, some ob1]) (a := .sl 3 0 m.length 0) (b := m) (x := x.co) (n := 4) (N := 4) rfl (Byt.whole rfl hw) (by omega) (by omega) (by omega) (by omega)
  refine Tells.of (o := ⟨.normal, [(6, .sl 4 0 (m ++ leB 4 x.co).length 0)], [some (cmO x (.ro c p t)), some nilB, some ob, some ob1, some ob2]⟩) ⟨0, ?_⟩ ⟨rfl, 4, 0, ob2, .inl rfl, rfl, hw2⟩
  have hle := leB_len 4 x.co
  simp only [cmO, Cm.pay] at hF
  simp (maxSteps := 2000000) -implicitDefEqProofs [-getElem?_pos, List.getElem?_cons_zero, List.getElem?_cons_succ, exec, runOps, dstOk, wantedV, AM.step, evalT, evalO, evalArgs, evalParts, getF, putF, afterRegion, assignV, boxOf, newBox, hasIdsP, keepF, ofVal, ofCell, plen, pesz, callV, builtinV, lenV, binV, unV, arith, shiftI, loadV, storeV, putV, indexAddrV, live, upd, pget, pset, psetA, pagg, retag, retagP, byteAV, freezeP, freezeV, joinTags, joinTag, tags, ids, scalar, cellsLen, eqV, convV, faV, fvV, shiftBy, shiftRo, aFr, cmO, Cm.pay, hF, wf, assignV, hle]

set_option maxRecDepth 100000 in
theorem as8 : ∃ code, asO = some code ∧
    Run X (evT X) 9 0 code (aFr 2 m.length 1 8) [some (cmO x (.ro c p t)), some nilB, some ob] ⟨.normal, aFr 2 m.length 1 8 ++ [(30, .bool false)], [some (cmO x (.ro c p t)), some nilB, some ob]⟩ := by
  refine ⟨_, rfl, 0, ?_⟩
  simp (maxSteps := 2000000) -implicitDefEqProofs [-getElem?_pos, List.getElem?_cons_zero, List.getElem?_cons_succ, exec, runOps, dstOk, wantedV, AM.step, evalT, evalO, evalArgs, evalParts, getF, putF, afterRegion, assignV, boxOf, newBox, hasIdsP, keepF, ofVal, ofCell, plen, pesz, callV, builtinV, lenV, binV, unV, arith, shiftI, loadV, storeV, putV, indexAddrV, live, upd, pget, pset, psetA, pagg, retag, retagP, byteAV, freezeP, freezeV, joinTags, joinTag, tags, ids, scalar, cellsLen, eqV, convV, faV, fvV, shiftBy, shiftRo, aFr]

set_option maxRecDepth 100000 in
theorem ab8 (hx : CmOk x) (hp : PB p x.dat) (hw : Rw (.pb m) 1 ob) (hm : m.length + x.txt.length + x.dat.length ≤ 80000000) : ∃ code, abO = some code ∧
    Tells (Goes (apF (m ++ x.dat))) X (evT X) 9 0 code (aFr 2 m.length 1 8 ++ [(30, .bool false)]) [some (cmO x (.ro c p t)), some nilB, some ob] := by
  refine ⟨_, rfl, ?_⟩
  obtain ⟨ob2, hw2, hA⟩ := app_b (H := [some (cmO x (.ro c p t)), some nilB, some ob]) (o := 2) (m := x.dat) (src := .ro c p t) rfl hw (srcB hp) (by omega)
  refine Tells.of (o := ⟨.normal, [(6, .sl 2 0 (m ++ x.dat).length 2)], [some (cmO x (.ro c p t)), some nilB, some ob2]⟩) ⟨0, ?_⟩ ⟨rfl, 2, 2, ob2, .inl rfl, rfl, hw2⟩
  simp only [cmO, Cm.pay] at hA
  simp (maxSteps := 2000000) -implicitDefEqProofs [-getElem?_pos, List.getElem?_cons_zero, List.getElem?_cons_succ, exec, runOps, dstOk, wantedV, AM.step, evalT, evalO, evalArgs, evalParts, getF, putF, afterRegion, assignV, boxOf, newBox, hasIdsP, keepF, ofVal, ofCell, plen, pesz, callV, builtinV, lenV, binV, unV, arith, shiftI, loadV, storeV, putV, indexAddrV, live, upd, pget, pset, psetA, pagg, retag, retagP, byteAV, freezeP, freezeV, joinTags, joinTag, tags, ids, scalar, cellsLen, eqV, convV, faV, fvV, shiftBy, shiftRo, aFr, cmO, Cm.pay, hA, upd, assignV]

end

end Go.Proofs.YtmdciglfpedhgaaDoor
