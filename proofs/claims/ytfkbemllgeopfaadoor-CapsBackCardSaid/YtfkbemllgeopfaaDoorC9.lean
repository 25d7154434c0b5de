/- Walks: the law CapsBack. -/
import Derived.Test.YtfkbemllgeopfaaDoorC8
namespace Go.Proofs.YtfkbemllgeopfaaDoor
open Go.AM
set_option linter.unusedSimpArgs false
set_option linter.unusedVariables false

theorem eq29 (x y : Int) : eqFlat X 6 29 [.int .i64 x, .int .i64 y] [.int .i64 0, .int .i64 0] = some (x == 0 && (y == 0 && true)) := by kernel_rfl
theorem mk29 (x y : Int) : mkAgg X 29 [.int .i64 x, .int .i64 y] = some (.pc [.int .i64 x, .int .i64 y]) := by kernel_rfl
theorem st29 : isStructT X 29 = true := by kernel_rfl
theorem gd29 : X.P.eqGuardType X.P.depth 29 = false := by kernel_rfl

theorem txF_pay {H : AM.Heap} {o : Nat} {l : List (List UInt8)} (h : H[o]? = some (txF l)) : payOf H (.sl o 0 l.length 0) = some (tx l) := by
  simp [payOf, live, h, txF, psub, tx, List.take_of_length_le]

set_option maxRecDepth 100000 in
theorem back_code (a b : BitVec 32) : ∃ code, Tryd.f4.body = some code ∧ ∃ H,
    Run X (evT X) 4 0 code [(0, uB a), (1, uB b)] [] ⟨.ret, [(4, .bool true)], H⟩ := by
  refine ⟨_, rfl, ?_⟩
  have hL := evT_eq (lives_ev [])
  have hN := evT_eq (nms_ev a [])
  have hO := evT_eq (of_ev (H := [txF (nmsB a 32)]) (a := .sl 0 0 (nmsB a 32).length 0) (txF_pay rfl) (by have := nmsB_len a 32; omega))
  rw [ofR_nms a 32 (by omega), lowB_all] at hO
  have hN2 := evT_eq (nms_ev a [txF (nmsB a 32), fltO 0 0])
  have hN3 := evT_eq (nms_ev b [txF (nmsB a 32), fltO 0 0, txF (nmsB a 32)])
  have hS := evT_eq (same_ev (H := [txF (nmsB a 32), fltO 0 0, txF (nmsB a 32), txF (nmsB b 32)]) (a := .sl 2 0 (nmsB a 32).length 0) (b := .sl 3 0 (nmsB b 32).length 0) (txF_pay rfl) (txF_pay rfl) (by have := nmsB_len a 32; omega))
  have hab : (nmsB a 32 == nmsB b 32) = (a == b) := by
    by_cases h : a = b
    · subst h; simp
    · rw [show (a == b) = false by simpa using h]
      simpa using fun e => h (nms_inj e)
  have hai : ((a.toNat : Int) == b.toNat) = (a == b) := by
    by_cases h : a = b
    · subst h; simp
    · rw [show (a == b) = false by simpa using h]
      have : ¬ (a.toNat : Int) = b.toNat := fun e => h ((eq_uB a b).1 e)
      simpa using this
  rw [hab] at hS
  refine ⟨[txF (nmsB a 32), fltO 0 0, txF (nmsB a 32), txF (nmsB b 32)], ?_⟩
  generalize (a == b) = q at *
  generalize nmsB a 32 = l at *
  generalize nmsB b 32 = m at *
  generalize txF l = o1 at *
  generalize txF m = o2 at *
  simp only [fltO, fltV, uB, List.length_cons, List.length_nil, List.nil_append, List.cons_append, Nat.zero_add, Nat.reduceAdd] at hN hO hN2 hN3 hS
  apply Run.seq
  · (refine ⟨0, ?_⟩; conv => lhs; simp (maxSteps := 2000000) -implicitDefEqProofs [-getElem?_pos, List.getElem?_cons_zero, List.getElem?_cons_succ, exec, runOps, dstOk, wantedV, AM.step, evalT, evalO, evalArgs, evalParts, getF, putF, afterRegion, assignV, boxOf, newBox, hasIdsP, keepF, ofVal, ofCell, plen, pesz, callV, builtinV, lenV, binV, unV, arith, shiftI, loadV, storeV, putV, indexAddrV, live, upd, pget, pset, psetA, pagg, retag, retagP, byteAV, freezeP, freezeV, joinTags, joinTag, tags, ids, scalar, cellsLen, eqV, convV, faV, fvV, shiftBy, shiftRo])
  apply Run.seq
  · (refine ⟨0, ?_⟩; conv => lhs; simp (maxSteps := 2000000) -implicitDefEqProofs [-getElem?_pos, List.getElem?_cons_zero, List.getElem?_cons_succ, exec, runOps, dstOk, wantedV, AM.step, evalT, evalO, evalArgs, evalParts, getF, putF, afterRegion, assignV, boxOf, newBox, hasIdsP, keepF, ofVal, ofCell, plen, pesz, callV, builtinV, lenV, binV, unV, arith, shiftI, loadV, storeV, putV, indexAddrV, live, upd, pget, pset, psetA, pagg, retag, retagP, byteAV, freezeP, freezeV, joinTags, joinTag, tags, ids, scalar, cellsLen, eqV, convV, faV, fvV, shiftBy, shiftRo, hL])
  apply Run.seq (fr' := [(0, uB a), (1, uB b), (5, uB a), (6, .ptr 1 0 0 0)]) (H' := [o1, fltO 0 0])
  · (refine ⟨0, ?_⟩; simp (maxSteps := 2000000) -implicitDefEqProofs [-getElem?_pos, List.getElem?_cons_zero, List.getElem?_cons_succ, exec, runOps, dstOk, wantedV, AM.step, evalT, evalO, evalArgs, evalParts, getF, putF, afterRegion, assignV, boxOf, newBox, hasIdsP, keepF, ofVal, ofCell, plen, pesz, callV, builtinV, lenV, binV, unV, arith, shiftI, loadV, storeV, putV, indexAddrV, live, upd, pget, pset, psetA, pagg, retag, retagP, byteAV, freezeP, freezeV, joinTags, joinTag, tags, ids, scalar, cellsLen, eqV, convV, faV, fvV, shiftBy, shiftRo, uB, hN, hO, fltO, flatCells, splice, scalars, scalar])
  refine ⟨0, ?_⟩
  simp (maxSteps := 2000000) -implicitDefEqProofs [-getElem?_pos, List.getElem?_cons_zero, List.getElem?_cons_succ, exec, runOps, dstOk, wantedV, AM.step, evalT, evalO, evalArgs, evalParts, getF, putF, afterRegion, assignV, boxOf, newBox, hasIdsP, keepF, ofVal, ofCell, plen, pesz, callV, builtinV, lenV, binV, unV, arith, shiftI, loadV, storeV, putV, indexAddrV, live, upd, pget, pset, psetA, pagg, retag, retagP, byteAV, freezeP, freezeV, joinTags, joinTag, tags, ids, scalar, cellsLen, eqV, convV, faV, fvV, shiftBy, shiftRo, uB, hL, hN, hO, hN2, hN3, hS, hai, mk29, eq29, st29, gd29, bd29n, flatCells, splice, scalars, scalar, fltO]

theorem back_ev (a b : BitVec 32) : Ev1 X 4 [uB a, uB b] [] (.bool true, []) := by
  obtain ⟨code, hb, H, hr⟩ := back_code a b
  exact Ev1.plain (args := [uB a, uB b]) (l := [.bool true]) (evT_below X) Tryd.func4 hb rfl rfl (by simp [gtag]) hr (.inr rfl) rfl rfl rfl

end Go.Proofs.YtfkbemllgeopfaaDoor
