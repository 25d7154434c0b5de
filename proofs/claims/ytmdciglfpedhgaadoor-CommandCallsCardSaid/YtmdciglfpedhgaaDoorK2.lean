/- Walks: Read. -/
import Derived.Test.YtmdciglfpedhgaaDoorK1
namespace Go.Proofs.YtmdciglfpedhgaaDoor
open Go.AM
set_option linter.unusedSimpArgs false
set_option linter.unusedVariables false

/-- a command -/
structure Cm where
  k : Nat
  txt : List UInt8 := []
  st : Nat := 0
  pa : Nat := 0
  fl : Nat := 0
  co : Nat := 0
  op : Nat := 0
  dat : List UInt8 := []
  deriving DecidableEq

/-- a command's cells, its data given as a value -/
def Cm.pay (x : Cm) (d : AV) : AV := .pc [.int .u8 (x.k : Nat), .str x.txt, .int .u32 (x.st : Nat), .int .u16 (x.pa : Nat), .int .u8 (x.fl : Nat), .int .u32 (x.co : Nat), .int .u16 (x.op : Nat), d]
def cmO (x : Cm) (d : AV) : AM.Obj := ⟨x.pay d, 0, some 8, 1, false, true, 0⟩

def bodyR (k : Nat) (s : St) : Cm × St :=
  match shp k with
  | 0 => ({ k := k }, s)
  | 1 => ({ k := k, txt := s.1 }, ([], s.2))
  | 2 => ({ k := k, co := (fx 4 s).1 }, (fx 4 s).2)
  | 3 =>
    let s1 := (fx 4 s).2
    let f := (fx 1 s1).1
    let s2 := (fx 1 s1).2
    let s3 : St := if s2.2 = 0 ∧ 1 < f then (s2.1, 5) else s2
    let s4 := (fx 4 s3).2
    let s5 : St := if (fx 4 s3).1 ≠ 1 ∧ s4.2 = 0 then (s4.1, 5) else s4
    ({ k := k, st := (fx 4 s).1, fl := f, dat := s5.1 }, ([], s5.2))
  | 4 => ({ k := k, st := (fx 4 s).1, pa := (fx 2 (fx 4 s).2).1, dat := (fx 2 (fx 4 s).2).2.1 }, ([], (fx 2 (fx 4 s).2).2.2))
  | 5 => ({ k := k, st := (fx 4 s).1 }, (fx 4 s).2)
  | 6 => ({ k := k, op := (fx 2 s).1 }, (fx 2 s).2)
  | 7 => ({ k := k, st := (fx 4 s).1, co := (fx 4 (fx 4 s).2).1 }, (fx 4 (fx 4 s).2).2)
  | _ => ({ k := k, dat := s.1 }, ([], s.2))

def readR (b : List UInt8) : Cm × Int :=
  let k := (fx 1 (b, 0)).1
  let s := (fx 1 (b, 0)).2
  if s.2 ≠ 0 then ({ k := 0 }, s.2) else
  let s' := (bodyR k s).2
  if s'.2 ≠ 0 then ({ k := 0 }, s'.2) else if s'.1 ≠ [] then ({ k := 0 }, 5) else ((bodyR k s).1, 0)

theorem fx_lt {n : Nat} (s : St) : (fx n s).1 < 256 ^ n := by
  unfold fx
  split
  · exact Nat.pow_pos (by omega)
  · split
    · exact Nat.pow_pos (by omega)
    · have := leV_lt (s.1.take n)
      rw [List.length_take, Nat.min_eq_left (by omega)] at this
      exact this

theorem fx_len (n : Nat) (s : St) : (fx n s).2.1.length ≤ s.1.length := by
  unfold fx
  split
  · exact Nat.le_refl _
  · split
    · exact Nat.le_refl _
    · simp

theorem fx_nil {n : Nat} {s : St} {c : Nat} (h : c = 0 → s.1 = []) : c = 0 → (fx n s).2.1 = [] := by
  intro hc
  have := h hc
  unfold fx
  split
  · exact this
  · split
    · exact this
    · simp [this]

/-- the reader's box, whatever is left -/
def boxIs (bx : AM.Obj) (s : St) : Prop := (∃ c, (c = 0 → s.1 = []) ∧ bx = rdO c 1 1 s) ∨ (s.1 = [] ∧ bx = rdN 1 s.2)
/-- a command's data, in a heap -/
def datIs (H : AM.Heap) (d : AV) (l : List UInt8) : Prop := (d = .ro 0 .pn 0 ∧ l = []) ∨ (∃ o ob, d = .sl o 0 l.length 0 ∧ H[o]? = some (some ob) ∧ Rw (.pb l) 0 ob)

/-- the same, behind the first three objects -/
def datIs3 (H : AM.Heap) (d : AV) (l : List UInt8) : Prop := (d = .ro 0 .pn 0 ∧ l = []) ∨ (∃ o ob, d = .sl o 0 l.length 0 ∧ 2 < o ∧ H[o]? = some (some ob) ∧ Rw (.pb l) 0 ob)

theorem datIs3.to {x y z x' y' z' : Option AM.Obj} {ext : AM.Heap} {d : AV} {l : List UInt8} (h : datIs3 (x :: y :: z :: ext) d l) : datIs (x' :: y' :: z' :: ext) d l := by
  rcases h with h | ⟨o, ob, h1, h2, h3, h4⟩
  · exact .inl h
  · refine .inr ⟨o, ob, h1, ?_, h4⟩
    match o, h2 with
    | o + 3, _ => exact h3

theorem bd48 (c : Nat) (b : List UInt8) (t : Nat) : buildV X 52 [(0, .ro c (.pb b) t)] = some (.agg (.pc [.ro c (.pb b) t, .int .i64 0])) := by kernel_rfl
theorem bd26 (k : Int) : buildV X 26 [(0, .int .u8 k)] = some (.agg (.pc [.int .u8 k, .str [], .int .u32 0, .int .u16 0, .int .u8 0, .int .u32 0, .int .u16 0, .ro 0 .pn 0])) := by kernel_rfl
theorem mk26 (l : List AV) : mkAgg X 26 l = some (.pc l) := by kernel_rfl
theorem bd26n : buildV X 26 [] = some (.agg (.pc [.int .u8 0, .str [], .int .u32 0, .int .u16 0, .int .u8 0, .int .u32 0, .int .u16 0, .ro 0 .pn 0])) := by kernel_rfl

/-- the box's cells -/
def rdU (c : Nat) (s : St) : AM.Obj := ⟨.pc [.ro c (.pb s.1) 1, .int .i64 s.2], 0, some 2, 1, false, true, 1⟩

theorem fix3 {c n : Nat} {N : Int} (hN : N = (n : Nat)) {s : St} (hc : c = 0 → s.1 = []) (hb : s.1.length ≤ 1000000) (h1 : 1 ≤ n) (h8 : n ≤ 8) (z z2 : Option AM.Obj) :
    evT X 30 [.ptr 1 0 0 0, .int .i64 N] [z, some ⟨.pc [.ro c (.pb s.1) 1, .int .i64 s.2], 0, some 2, 1, false, true, 1⟩, z2] =
      some (.int .u64 ((fx n s).1 : Nat), [z, some ⟨.pc [.ro c (.pb (fx n s).2.1) 1, .int .i64 (fx n s).2.2], 0, some 2, 1, false, true, 1⟩, z2]) :=
  fixed_ev (H := [z, some (rdO c 1 1 s), z2]) hN rfl hc (by omega) h1 h8

theorem rest3 {c : Nat} {s : St} (hc : c = 0 → s.1 = []) (hb : s.1.length ≤ 1000000) (z z2 : Option AM.Obj) :
    ∃ ob, Rw (.pb s.1) 0 ob ∧ evT X 31 [.ptr 1 0 0 0] [z, some ⟨.pc [.ro c (.pb s.1) 1, .int .i64 s.2], 0, some 2, 1, false, true, 1⟩, z2] =
      some (.sl 3 0 s.1.length 0, [z, some ⟨.pc [.ro 0 .pn 0, .int .i64 s.2], 0, some 2, 1, false, true, 1⟩, z2, some ob]) :=
  rest_ev (H := [z, some (rdO c 1 1 s), z2]) rfl hc (by omega)

def cL : Code → Option Code
  | .seq a _ => some a
  | _ => none
def cR : Code → Option Code
  | .seq _ b => some b
  | _ => none

theorem shp_lt (k : Nat) : shp k < 9 := by
  unfold shp
  repeat' split
  all_goals omega

/-- Read's choice by the kind -/
noncomputable def blkO : Option Code := ((((((Tryd.f19.body).bind cR).bind cR).bind cR).bind cR).bind cL).bind cR

section
variable {c : Nat} {s : St} {k : Nat}

/-- how the choice leaves the frame and the heap -/
def blkP (z : Option AM.Obj) (r : Cm × St) (fr : AM.Frame) (H : AM.Heap) : Prop :=
  ∃ bx d ext tl, fr = (2, .ptr 0 0 0 0) :: (4, .ptr 1 0 0 0) :: (5, .ptr 2 0 0 0) :: tl ∧ H = z :: some bx :: some (cmO r.1 d) :: ext ∧ boxIs bx r.2 ∧ datIs3 H d r.1.dat

def blkFr (j : Int) : AM.Frame := [(2, .ptr 0 0 0 0), (4, .ptr 1 0 0 0), (5, .ptr 2 0 0 0), (25, .int .i64 j)]
def blkE : AM.Frame := [(2, .ptr 0 0 0 0), (4, .ptr 1 0 0 0), (5, .ptr 2 0 0 0)]

set_option maxRecDepth 100000 in
theorem blk0 (hc : c = 0 → s.1 = []) (z : Option AM.Obj) : ∃ code, blkO = some code ∧
    Tells (Goes (blkP z ({ k := k }, s))) X (evT X) 19 0 code (blkFr 0) [z, some (rdO c 1 1 s), some (cmO { k := k } (.ro 0 .pn 0))] := by
  refine ⟨_, rfl, ?_⟩
  refine Tells.of (o := ⟨.normal, blkE ++ [(112, .bool false)], [z, some (rdO c 1 1 s), some (cmO { k := k } (.ro 0 .pn 0))]⟩) ⟨0, ?_⟩ ⟨rfl, _, .ro 0 .pn 0, [], [(112, .bool false)], rfl, rfl, .inl ⟨c, hc, rfl⟩, .inl ⟨rfl, rfl⟩⟩
  simp (maxSteps := 2000000) -implicitDefEqProofs [-getElem?_pos, List.getElem?_cons_zero, List.getElem?_cons_succ, exec, runOps, dstOk, wantedV, AM.step, evalT, evalO, evalArgs, evalParts, getF, putF, afterRegion, assignV, boxOf, newBox, hasIdsP, keepF, ofVal, ofCell, plen, pesz, callV, builtinV, lenV, binV, unV, arith, shiftI, loadV, storeV, putV, indexAddrV, live, upd, pget, pset, psetA, pagg, retag, retagP, byteAV, freezeP, freezeV, joinTags, joinTag, tags, ids, scalar, cellsLen, eqV, convV, faV, fvV, shiftBy, shiftRo, blkFr, blkE]

set_option maxRecDepth 100000 in
theorem blk2 (hc : c = 0 → s.1 = []) (hb : s.1.length ≤ 1000000) (z : Option AM.Obj) : ∃ code, blkO = some code ∧
    Tells (Goes (blkP z ({ k := k, co := (fx 4 s).1 }, (fx 4 s).2))) X (evT X) 19 0 code (blkFr 2) [z, some (rdO c 1 1 s), some (cmO { k := k } (.ro 0 .pn 0))] := by
  refine ⟨_, rfl, ?_⟩
  have hF := fix3 (N := 4) (n := 4) rfl hc hb (by omega) (by omega) z (some (cmO { k := k } (.ro 0 .pn 0)))
  have w := fx_lt (n := 4) s
  have hc' := fx_nil (n := 4) hc
  have w4 : IntKind.u32.wrap ((fx 4 s).1 : Nat) = ((fx 4 s).1 : Nat) := wrap_u32 (by omega) (by omega)
  refine Tells.of (o := ⟨.normal, blkE, [z, some (rdO c 1 1 (fx 4 s).2), some (cmO { k := k, co := (fx 4 s).1 } (.ro 0 .pn 0))]⟩) ⟨0, ?_⟩ ⟨rfl, _, .ro 0 .pn 0, [], [], rfl, rfl, .inl ⟨c, hc', rfl⟩, .inl ⟨rfl, rfl⟩⟩
  generalize fx 4 s = r at *
  simp only [cmO, Cm.pay, Int.cast_ofNat_Int] at hF
  simp (maxSteps := 2000000) -implicitDefEqProofs [-getElem?_pos, List.getElem?_cons_zero, List.getElem?_cons_succ, exec, runOps, dstOk, wantedV, AM.step, evalT, evalO, evalArgs, evalParts, getF, putF, afterRegion, assignV, boxOf, newBox, hasIdsP, keepF, ofVal, ofCell, plen, pesz, callV, builtinV, lenV, binV, unV, arith, shiftI, loadV, storeV, putV, indexAddrV, live, upd, pget, pset, psetA, pagg, retag, retagP, byteAV, freezeP, freezeV, joinTags, joinTag, tags, ids, scalar, cellsLen, eqV, convV, faV, fvV, shiftBy, shiftRo, blkFr, blkE, rdO, cmO, Cm.pay, hF, w4]

set_option maxRecDepth 100000 in
theorem blk1 (hc : c = 0 → s.1 = []) (hb : s.1.length ≤ 1000000) (z : Option AM.Obj) : ∃ code, blkO = some code ∧
    Tells (Goes (blkP z ({ k := k, txt := s.1 }, ([], s.2)))) X (evT X) 19 0 code (blkFr 1) [z, some (rdO c 1 1 s), some (cmO { k := k } (.ro 0 .pn 0))] := by
  refine ⟨_, rfl, ?_⟩
  obtain ⟨ob, hw, hF⟩ := rest3 hc hb z (some (cmO { k := k } (.ro 0 .pn 0)))
  refine Tells.of (o := ⟨.normal, blkE, [z, some (rdN 1 s.2), some (cmO { k := k, txt := s.1 } (.ro 0 .pn 0)), some ob]⟩) ⟨0, ?_⟩ ⟨rfl, _, .ro 0 .pn 0, [some ob], [], rfl, rfl, .inr ⟨rfl, rfl⟩, .inl ⟨rfl, rfl⟩⟩
  have hg := hw.g
  have hp := hw.p
  simp only [cmO, Cm.pay, Int.cast_ofNat_Int] at hF
  simp (maxSteps := 2000000) -implicitDefEqProofs [-getElem?_pos, List.getElem?_cons_zero, List.getElem?_cons_succ, exec, runOps, dstOk, wantedV, AM.step, evalT, evalO, evalArgs, evalParts, getF, putF, afterRegion, assignV, boxOf, newBox, hasIdsP, keepF, ofVal, ofCell, plen, pesz, callV, builtinV, lenV, binV, unV, arith, shiftI, loadV, storeV, putV, indexAddrV, live, upd, pget, pset, psetA, pagg, retag, retagP, byteAV, freezeP, freezeV, joinTags, joinTag, tags, ids, scalar, cellsLen, eqV, convV, faV, fvV, shiftBy, shiftRo, blkFr, blkE, rdO, rdN, cmO, Cm.pay, hF, hg, hp, readSl, psub]

set_option maxRecDepth 100000 in
theorem blk8 (hc : c = 0 → s.1 = []) (hb : s.1.length ≤ 1000000) (z : Option AM.Obj) : ∃ code, blkO = some code ∧
    Tells (Goes (blkP z ({ k := k, dat := s.1 }, ([], s.2)))) X (evT X) 19 0 code (blkFr 8) [z, some (rdO c 1 1 s), some (cmO { k := k } (.ro 0 .pn 0))] := by
  refine ⟨_, rfl, ?_⟩
  obtain ⟨ob, hw, hF⟩ := rest3 hc hb z (some (cmO { k := k } (.ro 0 .pn 0)))
  refine Tells.of (o := ⟨.normal, blkE, [z, some (rdN 1 s.2), some (cmO { k := k, dat := s.1 } (.sl 3 0 s.1.length 0)), some ob]⟩) ⟨0, ?_⟩ ⟨rfl, _, .sl 3 0 s.1.length 0, [some ob], [], rfl, rfl, .inr ⟨rfl, rfl⟩, .inr ⟨3, ob, rfl, by omega, rfl, hw⟩⟩
  simp only [cmO, Cm.pay, Int.cast_ofNat_Int] at hF
  simp (maxSteps := 2000000) -implicitDefEqProofs [-getElem?_pos, List.getElem?_cons_zero, List.getElem?_cons_succ, exec, runOps, dstOk, wantedV, AM.step, evalT, evalO, evalArgs, evalParts, getF, putF, afterRegion, assignV, boxOf, newBox, hasIdsP, keepF, ofVal, ofCell, plen, pesz, callV, builtinV, lenV, binV, unV, arith, shiftI, loadV, storeV, putV, indexAddrV, live, upd, pget, pset, psetA, pagg, retag, retagP, byteAV, freezeP, freezeV, joinTags, joinTag, tags, ids, scalar, cellsLen, eqV, convV, faV, fvV, shiftBy, shiftRo, blkFr, blkE, rdO, rdN, cmO, Cm.pay, hF]

set_option maxRecDepth 100000 in
theorem blk5 (hc : c = 0 → s.1 = []) (hb : s.1.length ≤ 1000000) (z : Option AM.Obj) : ∃ code, blkO = some code ∧
    Tells (Goes (blkP z ({ k := k, st := (fx 4 s).1 }, (fx 4 s).2))) X (evT X) 19 0 code (blkFr 5) [z, some (rdO c 1 1 s), some (cmO { k := k } (.ro 0 .pn 0))] := by
  refine ⟨_, rfl, ?_⟩
  have hF := fix3 (N := 4) (n := 4) rfl hc hb (by omega) (by omega) z (some (cmO { k := k } (.ro 0 .pn 0)))
  have w := fx_lt (n := 4) s
  have hc' := fx_nil (n := 4) hc
  have w4 : IntKind.u32.wrap ((fx 4 s).1 : Nat) = ((fx 4 s).1 : Nat) := wrap_u32 (by omega) (by omega)
  refine Tells.of (o := ⟨.normal, blkE, [z, some (rdO c 1 1 (fx 4 s).2), some (cmO { k := k, st := (fx 4 s).1 } (.ro 0 .pn 0))]⟩) ⟨0, ?_⟩ ⟨rfl, _, .ro 0 .pn 0, [], [], rfl, rfl, .inl ⟨c, hc', rfl⟩, .inl ⟨rfl, rfl⟩⟩
  generalize fx 4 s = r at *
  simp only [cmO, Cm.pay, Int.cast_ofNat_Int] at hF
  simp (maxSteps := 2000000) -implicitDefEqProofs [-getElem?_pos, List.getElem?_cons_zero, List.getElem?_cons_succ, exec, runOps, dstOk, wantedV, AM.step, evalT, evalO, evalArgs, evalParts, getF, putF, afterRegion, assignV, boxOf, newBox, hasIdsP, keepF, ofVal, ofCell, plen, pesz, callV, builtinV, lenV, binV, unV, arith, shiftI, loadV, storeV, putV, indexAddrV, live, upd, pget, pset, psetA, pagg, retag, retagP, byteAV, freezeP, freezeV, joinTags, joinTag, tags, ids, scalar, cellsLen, eqV, convV, faV, fvV, shiftBy, shiftRo, blkFr, blkE, rdO, cmO, Cm.pay, hF, w4]

set_option maxRecDepth 100000 in
theorem blk6 (hc : c = 0 → s.1 = []) (hb : s.1.length ≤ 1000000) (z : Option AM.Obj) : ∃ code, blkO = some code ∧
    Tells (Goes (blkP z ({ k := k, op := (fx 2 s).1 }, (fx 2 s).2))) X (evT X) 19 0 code (blkFr 6) [z, some (rdO c 1 1 s), some (cmO { k := k } (.ro 0 .pn 0))] := by
  refine ⟨_, rfl, ?_⟩
  have hF := fix3 (N := 2) (n := 2) rfl hc hb (by omega) (by omega) z (some (cmO { k := k } (.ro 0 .pn 0)))
  have w := fx_lt (n := 2) s
  have hc' := fx_nil (n := 2) hc
  have w4 : IntKind.u16.wrap ((fx 2 s).1 : Nat) = ((fx 2 s).1 : Nat) := wrap_u16 (by omega) (by omega)
  refine Tells.of (o := ⟨.normal, blkE, [z, some (rdO c 1 1 (fx 2 s).2), some (cmO { k := k, op := (fx 2 s).1 } (.ro 0 .pn 0))]⟩) ⟨0, ?_⟩ ⟨rfl, _, .ro 0 .pn 0, [], [], rfl, rfl, .inl ⟨c, hc', rfl⟩, .inl ⟨rfl, rfl⟩⟩
  generalize fx 2 s = r at *
  simp only [cmO, Cm.pay, Int.cast_ofNat_Int] at hF
  simp (maxSteps := 2000000) -implicitDefEqProofs [-getElem?_pos, List.getElem?_cons_zero, List.getElem?_cons_succ, exec, runOps, dstOk, wantedV, AM.step, evalT, evalO, evalArgs, evalParts, getF, putF, afterRegion, assignV, boxOf, newBox, hasIdsP, keepF, ofVal, ofCell, plen, pesz, callV, builtinV, lenV, binV, unV, arith, shiftI, loadV, storeV, putV, indexAddrV, live, upd, pget, pset, psetA, pagg, retag, retagP, byteAV, freezeP, freezeV, joinTags, joinTag, tags, ids, scalar, cellsLen, eqV, convV, faV, fvV, shiftBy, shiftRo, blkFr, blkE, rdO, cmO, Cm.pay, hF, w4]

set_option maxRecDepth 100000 in
theorem blk7 (hc : c = 0 → s.1 = []) (hb : s.1.length ≤ 1000000) (z : Option AM.Obj) : ∃ code, blkO = some code ∧
    Tells (Goes (blkP z ({ k := k, st := (fx 4 s).1, co := (fx 4 (fx 4 s).2).1 }, (fx 4 (fx 4 s).2).2))) X (evT X) 19 0 code (blkFr 7) [z, some (rdO c 1 1 s), some (cmO { k := k } (.ro 0 .pn 0))] := by
  refine ⟨_, rfl, ?_⟩
  have hF := fix3 (N := 4) (n := 4) rfl hc hb (by omega) (by omega) z (some (cmO { k := k } (.ro 0 .pn 0)))
  have w := fx_lt (n := 4) s
  have hl := fx_len 4 s
  have hc' := fx_nil (n := 4) hc
  have w4 : IntKind.u32.wrap ((fx 4 s).1 : Nat) = ((fx 4 s).1 : Nat) := wrap_u32 (by omega) (by omega)
  generalize fx 4 s = r at *
  have hF2 := fix3 (s := r.2) (N := 4) (n := 4) rfl hc' (by omega) (by omega) (by omega) z (some (cmO { k := k } (.ro 0 .pn 0)))
  have w2 := fx_lt (n := 4) r.2
  have hc2 := fx_nil (n := 4) hc'
  have w42 : IntKind.u32.wrap ((fx 4 r.2).1 : Nat) = ((fx 4 r.2).1 : Nat) := wrap_u32 (by omega) (by omega)
  refine Tells.of (o := ⟨.normal, blkE, [z, some (rdO c 1 1 (fx 4 r.2).2), some (cmO { k := k, st := r.1, co := (fx 4 r.2).1 } (.ro 0 .pn 0))]⟩) ⟨0, ?_⟩ ⟨rfl, _, .ro 0 .pn 0, [], [], rfl, rfl, .inl ⟨c, hc2, rfl⟩, .inl ⟨rfl, rfl⟩⟩
  generalize fx 4 r.2 = r2 at *
  simp only [cmO, Cm.pay, Int.cast_ofNat_Int] at hF hF2
  simp (maxSteps := 2000000) -implicitDefEqProofs [-getElem?_pos, List.getElem?_cons_zero, List.getElem?_cons_succ, exec, runOps, dstOk, wantedV, AM.step, evalT, evalO, evalArgs, evalParts, getF, putF, afterRegion, assignV, boxOf, newBox, hasIdsP, keepF, ofVal, ofCell, plen, pesz, callV, builtinV, lenV, binV, unV, arith, shiftI, loadV, storeV, putV, indexAddrV, live, upd, pget, pset, psetA, pagg, retag, retagP, byteAV, freezeP, freezeV, joinTags, joinTag, tags, ids, scalar, cellsLen, eqV, convV, faV, fvV, shiftBy, shiftRo, blkFr, blkE, rdO, cmO, Cm.pay, hF, hF2, w4, w42]

set_option maxRecDepth 100000 in
theorem blk4 (hc : c = 0 → s.1 = []) (hb : s.1.length ≤ 1000000) (z : Option AM.Obj) : ∃ code, blkO = some code ∧
    Tells (Goes (blkP z ({ k := k, st := (fx 4 s).1, pa := (fx 2 (fx 4 s).2).1, dat := (fx 2 (fx 4 s).2).2.1 }, ([], (fx 2 (fx 4 s).2).2.2)))) X (evT X) 19 0 code (blkFr 4) [z, some (rdO c 1 1 s), some (cmO { k := k } (.ro 0 .pn 0))] := by
  refine ⟨_, rfl, ?_⟩
  have hF := fix3 (N := 4) (n := 4) rfl hc hb (by omega) (by omega) z (some (cmO { k := k } (.ro 0 .pn 0)))
  have w := fx_lt (n := 4) s
  have hl := fx_len 4 s
  have hc' := fx_nil (n := 4) hc
  have w4 : IntKind.u32.wrap ((fx 4 s).1 : Nat) = ((fx 4 s).1 : Nat) := wrap_u32 (by omega) (by omega)
  generalize fx 4 s = r at *
  have hF2 := fix3 (s := r.2) (N := 2) (n := 2) rfl hc' (by omega) (by omega) (by omega) z (some (cmO { k := k } (.ro 0 .pn 0)))
  have w2 := fx_lt (n := 2) r.2
  have hl2 := fx_len 2 r.2
  have hc2 := fx_nil (n := 2) hc'
  have w42 : IntKind.u16.wrap ((fx 2 r.2).1 : Nat) = ((fx 2 r.2).1 : Nat) := wrap_u16 (by omega) (by omega)
  generalize fx 2 r.2 = r2 at *
  obtain ⟨ob, hw, hR⟩ := rest3 (s := r2.2) hc2 (by omega) z (some (cmO { k := k } (.ro 0 .pn 0)))
  refine Tells.of (o := ⟨.normal, blkE, [z, some (rdN 1 r2.2.2), some (cmO { k := k, st := r.1, pa := r2.1, dat := r2.2.1 } (.sl 3 0 r2.2.1.length 0)), some ob]⟩) ⟨0, ?_⟩ ⟨rfl, _, .sl 3 0 r2.2.1.length 0, [some ob], [], rfl, rfl, .inr ⟨rfl, rfl⟩, .inr ⟨3, ob, rfl, by omega, rfl, hw⟩⟩
  simp only [cmO, Cm.pay, Int.cast_ofNat_Int] at hF hF2 hR
  simp (maxSteps := 2000000) -implicitDefEqProofs [-getElem?_pos, List.getElem?_cons_zero, List.getElem?_cons_succ, exec, runOps, dstOk, wantedV, AM.step, evalT, evalO, evalArgs, evalParts, getF, putF, afterRegion, assignV, boxOf, newBox, hasIdsP, keepF, ofVal, ofCell, plen, pesz, callV, builtinV, lenV, binV, unV, arith, shiftI, loadV, storeV, putV, indexAddrV, live, upd, pget, pset, psetA, pagg, retag, retagP, byteAV, freezeP, freezeV, joinTags, joinTag, tags, ids, scalar, cellsLen, eqV, convV, faV, fvV, shiftBy, shiftRo, blkFr, blkE, rdO, rdN, cmO, Cm.pay, hF, hF2, hR, w4, w42]

end

end Go.Proofs.YtmdciglfpedhgaaDoor
