/- Walks: Both, the law CapsBoth. -/
import Derived.Test.YtfkbemllgeopfaaDoorC1
namespace Go.Proofs.YtfkbemllgeopfaaDoor
open Go.AM
set_option linter.unusedSimpArgs false
set_option linter.unusedVariables false

def hangsL : List AV := [.pc [.int .u32 29294760, .int .u32 512], .pc [.int .u32 3145728, .int .u32 524288], .pc [.int .u32 65536, .int .u32 131072]]

theorem hangs_ev (H : AM.Heap) : Ev1 X 23 [] H (.ro 1 (.pr 2 hangsL) 0, H) := by
  have := Ev1.tried (C := X) (T := fun _ _ _ => none) Below.none (n := 20) (f := 23) (args := []) (v := .ro 1 (.pr 2 hangsL) 0) (N := []) (by kernel_rfl) H
  simpa [shiftV, shiftH, ren, renL, hangsL] using this

def boFr (c : BitVec 32) (i : Nat) : AM.Frame := [(5, uB c), (11, .ro 1 (.pr 2 hangsL) 0), (12, .int .i64 3), (13, .int .i64 (i : Nat))]

def onB (i : Nat) : BitVec 32 := if i = 0 then 512#32 else if i = 1 then 524288#32 else 131072#32
def whatB (i : Nat) : BitVec 32 := if i = 0 then 29294760#32 else if i = 1 then 3145728#32 else 65536#32
def frmB (i : Nat) (c : BitVec 32) : BitVec 32 :=
  if i = 0 then dropB c else if i = 1 then wo (wo c 524288#32 3145728#32) 131072#32 65536#32 else if i = 2 then wo c 131072#32 65536#32 else c

theorem frmB_step {i : Nat} (hi : i < 3) (c : BitVec 32) : frmB (i + 1) (wo c (onB i) (whatB i)) = frmB i c := by
  match i, hi with
  | 0, _ => rfl
  | 1, _ => rfl
  | 2, _ => rfl

theorem hangs_at {i : Nat} (hi : i < 3) : hangsL[i]? = some (.pc [uB (whatB i), uB (onB i)]) := by
  match i, hi with
  | 0, _ => rfl
  | 1, _ => rfl
  | 2, _ => rfl

theorem mk43 (x y : Int) : mkAgg X 43 [.int .u32 x, .int .u32 y] = some (.pi .u32 [x, y]) := by simp [mkAgg, asInts]

set_option maxRecDepth 100000 in
theorem both_code (a b : BitVec 32) : ∃ code, Tryd.f8.body = some code ∧
    Tells (Rets fun fr _ => fr = [(4, uB (bothB a b))]) X (evT X) 8 0 code [(0, uB a), (1, uB b)] [] := by
  refine ⟨_, rfl, ?_⟩
  have hH := evT_eq (hangs_ev [])
  have hlen : hangsL.length = 3 := rfl
  apply Tells.seq
  · (refine ⟨0, ?_⟩; conv => lhs; simp (maxSteps := 2000000) -implicitDefEqProofs [-getElem?_pos, List.getElem?_cons_zero, List.getElem?_cons_succ, exec, runOps, dstOk, wantedV, AM.step, evalT, evalO, evalArgs, evalParts, getF, putF, afterRegion, assignV, boxOf, newBox, hasIdsP, keepF, ofVal, ofCell, plen, pesz, callV, builtinV, lenV, binV, unV, arith, shiftI, loadV, storeV, putV, indexAddrV, live, upd, pget, pset, psetA, pagg, retag, retagP, byteAV, freezeP, freezeV, joinTags, joinTag, tags, ids, scalar, cellsLen, eqV, convV, faV, fvV, shiftBy, shiftRo])
  apply Tells.seq
  · (refine ⟨0, ?_⟩; conv => lhs; simp (maxSteps := 2000000) -implicitDefEqProofs [-getElem?_pos, List.getElem?_cons_zero, List.getElem?_cons_succ, exec, runOps, dstOk, wantedV, AM.step, evalT, evalO, evalArgs, evalParts, getF, putF, afterRegion, assignV, boxOf, newBox, hasIdsP, keepF, ofVal, ofCell, plen, pesz, callV, builtinV, lenV, binV, unV, arith, shiftI, loadV, storeV, putV, indexAddrV, live, upd, pget, pset, psetA, pagg, retag, retagP, byteAV, freezeP, freezeV, joinTags, joinTag, tags, ids, scalar, cellsLen, eqV, convV, faV, fvV, shiftBy, shiftRo, uB, -BitVec.toNat_and])
  apply Tells.andThen (P := fun fr H => fr = boFr (bothB a b) 3 ++ [(14, .bool false)])
  · apply Tells.seq (fr' := boFr (a &&& b) 0) (H' := [])
    · (refine ⟨0, ?_⟩; simp (maxSteps := 2000000) -implicitDefEqProofs [-getElem?_pos, List.getElem?_cons_zero, List.getElem?_cons_succ, exec, runOps, dstOk, wantedV, AM.step, evalT, evalO, evalArgs, evalParts, getF, putF, afterRegion, assignV, boxOf, newBox, hasIdsP, keepF, ofVal, ofCell, plen, pesz, callV, builtinV, lenV, binV, unV, arith, shiftI, loadV, storeV, putV, indexAddrV, live, upd, pget, pset, psetA, pagg, retag, retagP, byteAV, freezeP, freezeV, joinTags, joinTag, tags, ids, scalar, cellsLen, eqV, convV, faV, fvV, shiftBy, shiftRo, uB, hH, hlen, boFr, -BitVec.toNat_and])
    apply Tells.block
    refine Tells.loop (σ := Nat × BitVec 32 × AM.Heap) (fun s => s.1 ≤ 3 ∧ frmB s.1 s.2.1 = bothB a b) (fun s => boFr s.2.1 s.1) (fun s => s.2.2) (fun s => 3 - s.1) ?_ (0, a &&& b, []) ⟨by omega, rfl⟩
    rintro ⟨i, c, H⟩ ⟨hi, hc⟩
    simp only at hi hc ⊢
    by_cases h3 : i = 3
    · right
      subst h3
      refine ⟨⟨.exit 0, boFr (bothB a b) 3 ++ [(14, .bool false)], H⟩, ⟨rfl, rfl⟩, by simp, ?_⟩
      have hc' : c = bothB a b := hc
      subst hc'
      (refine ⟨0, ?_⟩; simp (maxSteps := 2000000) -implicitDefEqProofs [-getElem?_pos, List.getElem?_cons_zero, List.getElem?_cons_succ, exec, runOps, dstOk, wantedV, AM.step, evalT, evalO, evalArgs, evalParts, getF, putF, afterRegion, assignV, boxOf, newBox, hasIdsP, keepF, ofVal, ofCell, plen, pesz, callV, builtinV, lenV, binV, unV, arith, shiftI, loadV, storeV, putV, indexAddrV, live, upd, pget, pset, psetA, pagg, retag, retagP, byteAV, freezeP, freezeV, joinTags, joinTag, tags, ids, scalar, cellsLen, eqV, convV, faV, fvV, shiftBy, shiftRo, boFr])
    · left
      have hi3 : i < 3 := by omega
      have hiI : (i : Int) < 3 := by omega
      have hat := hangs_at hi3
      have w1 : IntKind.i64.wrap ((i : Int) + 1) = ((i + 1 : Nat) : Int) := by rw [wrap_i64 (by omega) (by omega)]; omega
      refine ⟨(i + 1, wo c (onB i) (whatB i), H ++ [some ⟨.pi .u32 [((whatB i).toNat : Nat), ((onB i).toNat : Nat)], 0, some 2, 1, false, false, 0⟩]), ⟨by simp only; omega, (frmB_step hi3 c).trans hc⟩, ?_, by simp only; omega⟩
      by_cases hz : c &&& onB i = 0#32
      · rw [show wo c (onB i) (whatB i) = c &&& ~~~whatB i from if_pos hz]
        (refine ⟨0, ?_⟩; simp (maxSteps := 2000000) -implicitDefEqProofs [-getElem?_pos, List.getElem?_cons_zero, List.getElem?_cons_succ, exec, runOps, dstOk, wantedV, AM.step, evalT, evalO, evalArgs, evalParts, getF, putF, afterRegion, assignV, boxOf, newBox, hasIdsP, keepF, ofVal, ofCell, plen, pesz, callV, builtinV, lenV, binV, unV, arith, shiftI, loadV, storeV, putV, indexAddrV, live, upd, pget, pset, psetA, pagg, retag, retagP, byteAV, freezeP, freezeV, joinTags, joinTag, tags, ids, scalar, cellsLen, eqV, convV, faV, fvV, shiftBy, shiftRo, uB, -BitVec.toNat_and, boFr, hiI, hat, w1, hlen, mk43, cat_at, cat_set, zero_uB, hz])
      · rw [show wo c (onB i) (whatB i) = c from if_neg hz]
        have hz' : ¬ (c &&& onB i).toNat = 0 := fun h => hz (BitVec.eq_of_toNat_eq h)
        (refine ⟨0, ?_⟩; simp (maxSteps := 2000000) -implicitDefEqProofs [-getElem?_pos, List.getElem?_cons_zero, List.getElem?_cons_succ, exec, runOps, dstOk, wantedV, AM.step, evalT, evalO, evalArgs, evalParts, getF, putF, afterRegion, assignV, boxOf, newBox, hasIdsP, keepF, ofVal, ofCell, plen, pesz, callV, builtinV, lenV, binV, unV, arith, shiftI, loadV, storeV, putV, indexAddrV, live, upd, pget, pset, psetA, pagg, retag, retagP, byteAV, freezeP, freezeV, joinTags, joinTag, tags, ids, scalar, cellsLen, eqV, convV, faV, fvV, shiftBy, shiftRo, uB, -BitVec.toNat_and, boFr, hiI, hat, w1, hlen, mk43, cat_at, cat_set, hz'])
  · rintro fr H rfl
    refine Tells.of (o := ⟨.ret, [(4, uB (bothB a b))], H⟩) ?_ ⟨rfl, rfl⟩
    refine ⟨0, ?_⟩
    simp (maxSteps := 2000000) -implicitDefEqProofs [-getElem?_pos, List.getElem?_cons_zero, List.getElem?_cons_succ, exec, runOps, dstOk, wantedV, AM.step, evalT, evalO, evalArgs, evalParts, getF, putF, afterRegion, assignV, boxOf, newBox, hasIdsP, keepF, ofVal, ofCell, plen, pesz, callV, builtinV, lenV, binV, unV, arith, shiftI, loadV, storeV, putV, indexAddrV, live, upd, pget, pset, psetA, pagg, retag, retagP, byteAV, freezeP, freezeV, joinTags, joinTag, tags, ids, scalar, cellsLen, eqV, convV, faV, fvV, shiftBy, shiftRo, boFr]

theorem Ev1.uB1 {f : Nat} {a b v : BitVec 32} {fn : Func} {c : Code} (hF : X.P.funcs[f]? = some fn) (hb : fn.body = some c) (hp : paramsOf X f = [23, 23]) (hr : fn.results.toList = [.tmp 4])
    (h : Tells (Rets fun fr _ => fr = [(4, uB v)]) X (evT X) f 0 c [(0, uB a), (1, uB b)] []) (H : AM.Heap) : Ev1 X f [uB a, uB b] H (uB v, H) := by
  obtain ⟨⟨ex, fr, H1⟩, ⟨he, hfr⟩, hrun⟩ := h
  simp only at he hfr
  subst he; subst hfr
  refine Ev1.plain (args := [uB a, uB b]) (l := [uB v]) (out := ⟨.ret, [(4, uB v)], H1⟩) (evT_below X) hF hb rfl rfl (by simp [gtag]) ?_ (.inr rfl) ?_ rfl rfl
  · rw [hp]
    exact hrun
  · rw [hr]; rfl

theorem both_ev (a b : BitVec 32) (H : AM.Heap) : Ev1 X 8 [uB a, uB b] H (uB (bothB a b), H) := by
  obtain ⟨code, hb, h⟩ := both_code a b
  exact Ev1.uB1 Tryd.func8 hb (by simp) rfl h H

end Go.Proofs.YtfkbemllgeopfaaDoor
