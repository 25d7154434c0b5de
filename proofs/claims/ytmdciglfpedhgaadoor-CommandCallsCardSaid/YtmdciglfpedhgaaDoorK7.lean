/- Walks: Check. -/
import Derived.Test.YtmdciglfpedhgaaDoorK6
namespace Go.Proofs.YtmdciglfpedhgaaDoor
open Go.AM
set_option linter.unusedSimpArgs false
set_option linter.unusedVariables false

theorem load26 {H : AM.Heap} {o : Nat} {x : Cm} {d : AV} (h : H[o]? = some (some (cmO x d))) : loadV X H 26 (.ptr o 0 0 0) = some (.agg (x.pay d)) := by
  simp [loadV, live, h, cmO, pagg, Cm.pay, mk26]

theorem bare_ev {H : AM.Heap} {x : Cm} (hk : x.k < 256) {c t : Nat} {p : AV} (hp : PB p x.dat) :
    evT X 26 [.agg (x.pay (.ro c p t))] H = some (.agg ((barR x).pay (barD x (.ro c p t))), H) := by
  obtain ⟨code, hcode, ⟨ex, fr, H1⟩, ⟨he, h2, h1⟩, hrun⟩ := bare_code x hk c 1 p
  simp only at he h2 h1
  subst he
  have hl : lendArgs X 26 H 0 [.agg (x.pay (.ro c p t))] = some ([.agg (x.pay (.ro c p 1))], [⟨[], [t]⟩]) := by
    simp [lendArgs, lendV, lendL, lend1, Cm.pay, tags]
  have hpi := hp.ids
  have hd : barD x (.ro c p 1) = .ro c p 1 ∧ barD x (.ro c p t) = .ro c p t ∨ barD x (.ro c p 1) = .ro 0 .pn 0 ∧ barD x (.ro c p t) = .ro 0 .pn 0 := by
    unfold barD
    split
    · exact .inl ⟨rfl, rfl⟩
    · exact .inr ⟨rfl, rfl⟩
  have := Ev1.back1 (t := t) (l := [.agg ((barR x).pay (barD x (.ro c p 1)))]) (evT_below X) Tryd.func26 hcode hl rfl (by simp [joinTags, joinTag]; omega) (by simp [Cm.pay, ids, idsL])
    ⟨_, ⟨rfl, by
      show (match loadV X H1 26 (getF fr 2), some [] with | some v, some l => some (v :: l) | _, _ => none) = _
      rw [h2, load26 h1]⟩, hrun⟩
    (by rcases hd with ⟨hd, _⟩ | ⟨hd, _⟩ <;> rw [hd] <;> simp [resultV, Cm.pay, ids, idsL])
    (by rcases hd with ⟨hd, _⟩ | ⟨hd, _⟩ <;> rw [hd] <;> simp [resultV, Cm.pay, tags, tagsL])
  refine (evT_eq this).trans ?_
  rcases hd with ⟨hd, hd'⟩ | ⟨hd, hd'⟩
  · rw [hd, hd']; simp [resultV, Cm.pay, ren, renL]
  · rw [hd, hd']; simp [resultV, Cm.pay, ren, renL]

/-- are the fields that Check compares the same? -/
def same7 (y x : Cm) : Bool := y.txt == x.txt && (y.st == x.st && (y.pa == x.pa && (y.fl == x.fl && (y.co == x.co && (y.op == x.op && y.dat.length == x.dat.length)))))
def chkR (x : Cm) : Int := if same7 (barR x) x = true ∧ x.fl ≤ 1 then 0 else 2

theorem barR_dat (x : Cm) (v : AV) : (barD x v = v ∧ (barR x).dat = x.dat) ∨ (barD x v = .ro 0 .pn 0 ∧ (barR x).dat = []) := by
  have h9 := shp_lt x.k
  unfold barD barR
  generalize shp x.k = j at *
  match j, h9 with
  | 0, _ | 1, _ | 2, _ | 5, _ | 6, _ | 7, _ => right; exact ⟨rfl, rfl⟩
  | 3, _ | 4, _ | 8, _ => left; exact ⟨rfl, rfl⟩

theorem beqI (a b : Nat) : (((a : Nat) : Int) == ((b : Nat) : Int)) = (a == b) := by
  by_cases h : a = b
  · subst h; simp
  · have : ¬ ((a : Nat) : Int) = b := by omega
    rw [show (a == b) = false by simpa using h]
    simpa using this

def ckFr (b : Bool) : AM.Frame := [(1, .ptr 0 0 0 0), (4, .bool b)]

section
variable (x y : Cm) (c c' t' : Nat) (p p' : AV)

/-- Check's comparison -/
noncomputable def cmpO : Option Code := (((Tryd.f11.body).bind cR).bind cR).bind cL

set_option maxRecDepth 100000 in
theorem cmp_code (hplx : plen p = x.dat.length) (hply : plen p' = y.dat.length) : ∃ code, cmpO = some code ∧
    Run X (evT X) 11 0 code [(1, .ptr 0 0 0 0), (3, .ptr 1 0 0 0)] [some (cmO x (.ro c p 1)), some (cmO y (.ro c' p' t'))] ⟨.normal, ckFr (same7 y x), [some (cmO x (.ro c p 1)), some (cmO y (.ro c' p' t'))]⟩ := by
  refine ⟨_, rfl, 0, ?_⟩
  unfold same7
  by_cases e0 : y.txt = x.txt
  case neg =>
    have f0 : (y.txt == x.txt) = false := by simpa using e0
    simp (maxSteps := 2000000) -implicitDefEqProofs [-getElem?_pos, List.getElem?_cons_zero, List.getElem?_cons_succ, exec, runOps, dstOk, wantedV, AM.step, evalT, evalO, evalArgs, evalParts, getF, putF, afterRegion, assignV, boxOf, newBox, hasIdsP, keepF, ofVal, ofCell, plen, pesz, callV, builtinV, lenV, binV, unV, arith, shiftI, loadV, storeV, putV, indexAddrV, live, upd, pget, pset, psetA, pagg, retag, retagP, byteAV, freezeP, freezeV, joinTags, joinTag, tags, ids, scalar, cellsLen, eqV, convV, faV, fvV, shiftBy, shiftRo, hplx, hply, -plen, strOp, cmO, Cm.pay, ckFr, beqI, f0]
  by_cases e1 : y.st = x.st
  case neg =>
    have f1 : (y.st == x.st) = false := by simpa using e1
    simp (maxSteps := 2000000) -implicitDefEqProofs [-getElem?_pos, List.getElem?_cons_zero, List.getElem?_cons_succ, exec, runOps, dstOk, wantedV, AM.step, evalT, evalO, evalArgs, evalParts, getF, putF, afterRegion, assignV, boxOf, newBox, hasIdsP, keepF, ofVal, ofCell, plen, pesz, callV, builtinV, lenV, binV, unV, arith, shiftI, loadV, storeV, putV, indexAddrV, live, upd, pget, pset, psetA, pagg, retag, retagP, byteAV, freezeP, freezeV, joinTags, joinTag, tags, ids, scalar, cellsLen, eqV, convV, faV, fvV, shiftBy, shiftRo, hplx, hply, -plen, strOp, cmO, Cm.pay, ckFr, beqI, e0, f1]
  by_cases e2 : y.pa = x.pa
  case neg =>
    have f2 : (y.pa == x.pa) = false := by simpa using e2
    simp (maxSteps := 2000000) -implicitDefEqProofs [-getElem?_pos, List.getElem?_cons_zero, List.getElem?_cons_succ, exec, runOps, dstOk, wantedV, AM.step, evalT, evalO, evalArgs, evalParts, getF, putF, afterRegion, assignV, boxOf, newBox, hasIdsP, keepF, ofVal, ofCell, plen, pesz, callV, builtinV, lenV, binV, unV, arith, shiftI, loadV, storeV, putV, indexAddrV, live, upd, pget, pset, psetA, pagg, retag, retagP, byteAV, freezeP, freezeV, joinTags, joinTag, tags, ids, scalar, cellsLen, eqV, convV, faV, fvV, shiftBy, shiftRo, hplx, hply, -plen, strOp, cmO, Cm.pay, ckFr, beqI, e0, e1, f2]
  by_cases e3 : y.fl = x.fl
  case neg =>
    have f3 : (y.fl == x.fl) = false := by simpa using e3
    simp (maxSteps := 2000000) -implicitDefEqProofs [-getElem?_pos, List.getElem?_cons_zero, List.getElem?_cons_succ, exec, runOps, dstOk, wantedV, AM.step, evalT, evalO, evalArgs, evalParts, getF, putF, afterRegion, assignV, boxOf, newBox, hasIdsP, keepF, ofVal, ofCell, plen, pesz, callV, builtinV, lenV, binV, unV, arith, shiftI, loadV, storeV, putV, indexAddrV, live, upd, pget, pset, psetA, pagg, retag, retagP, byteAV, freezeP, freezeV, joinTags, joinTag, tags, ids, scalar, cellsLen, eqV, convV, faV, fvV, shiftBy, shiftRo, hplx, hply, -plen, strOp, cmO, Cm.pay, ckFr, beqI, e0, e1, e2, f3]
  by_cases e4 : y.co = x.co
  case neg =>
    have f4 : (y.co == x.co) = false := by simpa using e4
    simp (maxSteps := 2000000) -implicitDefEqProofs [-getElem?_pos, List.getElem?_cons_zero, List.getElem?_cons_succ, exec, runOps, dstOk, wantedV, AM.step, evalT, evalO, evalArgs, evalParts, getF, putF, afterRegion, assignV, boxOf, newBox, hasIdsP, keepF, ofVal, ofCell, plen, pesz, callV, builtinV, lenV, binV, unV, arith, shiftI, loadV, storeV, putV, indexAddrV, live, upd, pget, pset, psetA, pagg, retag, retagP, byteAV, freezeP, freezeV, joinTags, joinTag, tags, ids, scalar, cellsLen, eqV, convV, faV, fvV, shiftBy, shiftRo, hplx, hply, -plen, strOp, cmO, Cm.pay, ckFr, beqI, e0, e1, e2, e3, f4]
  by_cases e5 : y.op = x.op
  case neg =>
    have f5 : (y.op == x.op) = false := by simpa using e5
    simp (maxSteps := 2000000) -implicitDefEqProofs [-getElem?_pos, List.getElem?_cons_zero, List.getElem?_cons_succ, exec, runOps, dstOk, wantedV, AM.step, evalT, evalO, evalArgs, evalParts, getF, putF, afterRegion, assignV, boxOf, newBox, hasIdsP, keepF, ofVal, ofCell, plen, pesz, callV, builtinV, lenV, binV, unV, arith, shiftI, loadV, storeV, putV, indexAddrV, live, upd, pget, pset, psetA, pagg, retag, retagP, byteAV, freezeP, freezeV, joinTags, joinTag, tags, ids, scalar, cellsLen, eqV, convV, faV, fvV, shiftBy, shiftRo, hplx, hply, -plen, strOp, cmO, Cm.pay, ckFr, beqI, e0, e1, e2, e3, e4, f5]
  by_cases e6 : y.dat.length = x.dat.length
  case neg =>
    have f6 : (y.dat.length == x.dat.length) = false := by simpa using e6
    simp (maxSteps := 2000000) -implicitDefEqProofs [-getElem?_pos, List.getElem?_cons_zero, List.getElem?_cons_succ, exec, runOps, dstOk, wantedV, AM.step, evalT, evalO, evalArgs, evalParts, getF, putF, afterRegion, assignV, boxOf, newBox, hasIdsP, keepF, ofVal, ofCell, plen, pesz, callV, builtinV, lenV, binV, unV, arith, shiftI, loadV, storeV, putV, indexAddrV, live, upd, pget, pset, psetA, pagg, retag, retagP, byteAV, freezeP, freezeV, joinTags, joinTag, tags, ids, scalar, cellsLen, eqV, convV, faV, fvV, shiftBy, shiftRo, hplx, hply, -plen, strOp, cmO, Cm.pay, ckFr, beqI, e0, e1, e2, e3, e4, e5, f6]
  simp (maxSteps := 2000000) -implicitDefEqProofs [-getElem?_pos, List.getElem?_cons_zero, List.getElem?_cons_succ, exec, runOps, dstOk, wantedV, AM.step, evalT, evalO, evalArgs, evalParts, getF, putF, afterRegion, assignV, boxOf, newBox, hasIdsP, keepF, ofVal, ofCell, plen, pesz, callV, builtinV, lenV, binV, unV, arith, shiftI, loadV, storeV, putV, indexAddrV, live, upd, pget, pset, psetA, pagg, retag, retagP, byteAV, freezeP, freezeV, joinTags, joinTag, tags, ids, scalar, cellsLen, eqV, convV, faV, fvV, shiftBy, shiftRo, hplx, hply, -plen, strOp, cmO, Cm.pay, ckFr, beqI, e0, e1, e2, e3, e4, e5, e6]

end

end Go.Proofs.YtmdciglfpedhgaaDoor
