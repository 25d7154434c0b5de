/- Walks: the document's Put, and what is told of its Codes. -/
import Derived.Test.YtikleidhmekgnaaW8
namespace Go.Proofs.Ytikleidhmekgnaa
open Go.AM
set_option linter.unusedSimpArgs false
set_option linter.unusedVariables false

/-- bytes handed over, n times grown -/
def hoB (b : List UInt8) (g z : Nat) : Option AM.Obj := some { p := .pb b, g := g, cap := .none, z := z, row := true, ids := false, tg := 4 }

theorem app_hoB (b : List UInt8) (z : Nat) (o2 : Option AM.Obj) (h : b.length ≤ 100000) : appendV X [hoB b 0 z, o2] 28 (.sl 0 0 b.length 0) (.ro 1 (.pb [0]) 0) = some (.sl 0 0 (b ++ [0]).length 1, [hoB (b ++ [0]) 1 (if b.length = 0 then z else 1), o2]) := by
  have hroom : roomOk X 5 (b.length + 1) = true := by
    simp [roomOk]
    omega
  simp only [appendV, und28, size5, zok5]
  simp [srcV, payB, plen, live, hoB, psub, papp, pesz, ptag, joinTag, upd, hroom]

set_option maxRecDepth 100000 in
theorem put_code (T : Cf) (b : List UInt8) (z k : Nat) (v : Int) (hb : b.length = byB k) (hk : k ≤ 100000) : ∃ code, Try.f23.body = some code ∧
    Run X T 23 1 code [(0, .sl 0 0 b.length 0), (1, .int .i64 (k : Nat)), (2, .int .i64 v)] [hoB b 0 z]
      ⟨.ret, [(6, .sl 0 0 (putB b k v).length (if k % 8 = 0 then 1 else 0))], [hoB (putB b k v) (if k % 8 = 0 then 1 else 0) (if k % 8 = 0 then (if b.length = 0 then z else 1) else z), nilB]⟩ := by
  refine ⟨_, rfl, ?_⟩
  have hm : ((k : Int).tmod 8) = ((k % 8 : Nat) : Int) := by
    rw [Int.tmod_eq_emod_of_nonneg (by omega)]; omega
  obtain ⟨q, hq⟩ : ∃ q, k / 8 = q := ⟨_, rfl⟩
  obtain ⟨r, hr⟩ : ∃ r, k % 8 = r := ⟨_, rfl⟩
  have hdq : IntKind.i64.wrap ((k : Int).tdiv 8) = (q : Int) := by
    rw [Int.tdiv_eq_ediv_of_nonneg (by omega), wrap_i64 (by omega) (by omega)]; omega
  have hdq2 : IntKind.i64.wrap ((k : Int) / 8) = (q : Int) := by rw [wrap_i64 (by omega) (by omega)]; omega
  have hmr : (k : Int).tmod 8 = (r : Int) := by rw [hm, hr]
  have hmr2 : (k : Int) % 8 = (r : Int) := by omega
  have hr8 : min r 8 = r := by omega
  have hr0 : ¬ ((r : Int) < 0) := by omega
  have hrw : IntKind.u64.wrap (r : Int) = (r : Int) := wrap_u64 (by omega) (by omega)
  have hu1 : ∀ n, 0 ≤ IntKind.u8.wrap n := fun n => (u8_range n).1
  have hu2 : ∀ n, IntKind.u8.wrap n < 256 := fun n => (u8_range n).2
  apply Run.seq (fr' := [(0, .sl 0 0 b.length 0), (1, .int .i64 (k : Nat)), (2, .int .i64 v)]) (H' := [hoB b 0 z, nilB])
  · (refine ⟨0, ?_⟩; simp -implicitDefEqProofs [-getElem?_pos, List.getElem?_cons_zero, List.getElem?_cons_succ, exec, runOps, dstOk, wantedV, AM.step, evalT, evalO, evalArgs, evalParts, getF, putF, afterRegion, assignV, boxOf, newBox, hasIdsP, keepF, ofVal, ofCell, plen, pesz, callV, builtinV, lenV, binV, unV, arith, shiftI, loadV, storeV, putV, indexAddrV, live, upd, pget, pset, psetA, pagg, retag, retagP, byteAV, freezeP, freezeV, joinTags, joinTag, tags, ids, scalar, cellsLen, eqV, convV, faV, fvV, shiftBy, shiftRo, rowOf, emptyRow, nilB])
  by_cases h8 : k % 8 = 0
  · have hbl : b.length ≤ 100000 := by rw [hb]; unfold byB; omega
    have hap := app_hoB b z nilB hbl
    have hlen : (b ++ [0]).length = byB (k + 1) := by simp [hb, byB]; omega
    have hput : putB b k v = (b ++ [0]).set (k / 8) (orB ((b ++ [0]).getD (k / 8) 0) v k) := by rw [putB, if_pos h8]
    rw [hput]
    generalize b ++ [0] = B at hap hlen ⊢
    have hkB : q < B.length := by rw [hlen]; unfold byB; omega
    obtain ⟨w, hw⟩ : ∃ w, B[q]? = some w := ⟨B[q], List.getElem?_eq_getElem hkB⟩
    have hkI : (q : Int) < (B.length : Int) := by omega
    have hr00 : r = 0 := by omega
    apply Run.seq (fr' := [(0, .sl 0 0 B.length 1), (1, .int .i64 (k : Nat)), (2, .int .i64 v)]) (H' := [hoB B 1 (if b.length = 0 then z else 1), nilB])
    · have h8J : (k : Int) % 8 = 0 := by omega
      (refine ⟨0, ?_⟩; simp -implicitDefEqProofs [-getElem?_pos, List.getElem?_cons_zero, List.getElem?_cons_succ, exec, runOps, dstOk, wantedV, AM.step, evalT, evalO, evalArgs, evalParts, getF, putF, afterRegion, assignV, boxOf, newBox, hasIdsP, keepF, ofVal, ofCell, plen, pesz, callV, builtinV, lenV, binV, unV, arith, shiftI, loadV, storeV, putV, indexAddrV, live, upd, pget, pset, psetA, pagg, retag, retagP, byteAV, freezeP, freezeV, joinTags, joinTag, tags, ids, scalar, cellsLen, eqV, convV, faV, fvV, shiftBy, shiftRo, hm, h8, h8J, hap, bs0])
    generalize (if b.length = 0 then z else 1) = z'
    apply Run.seq (fr' := [(0, .sl 0 0 B.length 1)]) (H' := [hoB (B.set q (orB (B.getD q 0) v k)) 1 z', nilB])
    · (refine ⟨0, ?_⟩; simp -implicitDefEqProofs [-getElem?_pos, List.getElem?_cons_zero, List.getElem?_cons_succ, exec, runOps, dstOk, wantedV, AM.step, evalT, evalO, evalArgs, evalParts, getF, putF, afterRegion, assignV, boxOf, newBox, hasIdsP, keepF, ofVal, ofCell, plen, pesz, callV, builtinV, lenV, binV, unV, arith, shiftI, loadV, storeV, putV, indexAddrV, live, upd, pget, pset, psetA, pagg, retag, retagP, byteAV, freezeP, freezeV, joinTags, joinTag, tags, ids, scalar, cellsLen, eqV, convV, faV, fvV, shiftBy, shiftRo, hdq, hdq2, hkI, hkB, hw, hr0, hr8, hmr, hmr2, hq, hr, hrw, hu1, hu2, IntKind.bits, orB, List.getD_eq_getElem?_getD, hoB, nilB])
    · refine ⟨0, ?_⟩
      simp -implicitDefEqProofs [-getElem?_pos, List.getElem?_cons_zero, List.getElem?_cons_succ, exec, runOps, dstOk, wantedV, AM.step, evalT, evalO, evalArgs, evalParts, getF, putF, afterRegion, assignV, boxOf, newBox, hasIdsP, keepF, ofVal, ofCell, plen, pesz, callV, builtinV, lenV, binV, unV, arith, shiftI, loadV, storeV, putV, indexAddrV, live, upd, pget, pset, psetA, pagg, retag, retagP, byteAV, freezeP, freezeV, joinTags, joinTag, tags, ids, scalar, cellsLen, eqV, convV, faV, fvV, shiftBy, shiftRo, h8, hq]
  · have hput : putB b k v = b.set (k / 8) (orB (b.getD (k / 8) 0) v k) := by rw [putB, if_neg h8]
    rw [hput]
    have hkB : q < b.length := by rw [hb]; unfold byB; omega
    obtain ⟨w, hw⟩ : ∃ w, b[q]? = some w := ⟨b[q], List.getElem?_eq_getElem hkB⟩
    have hkI : (q : Int) < (b.length : Int) := by omega
    apply Run.seq (fr' := [(0, .sl 0 0 b.length 0), (1, .int .i64 (k : Nat)), (2, .int .i64 v), (9, .bool false)]) (H' := [hoB b 0 z, nilB])
    · have h8J : ¬ (k : Int) % 8 = 0 := by omega
      (refine ⟨0, ?_⟩; simp -implicitDefEqProofs [-getElem?_pos, List.getElem?_cons_zero, List.getElem?_cons_succ, exec, runOps, dstOk, wantedV, AM.step, evalT, evalO, evalArgs, evalParts, getF, putF, afterRegion, assignV, boxOf, newBox, hasIdsP, keepF, ofVal, ofCell, plen, pesz, callV, builtinV, lenV, binV, unV, arith, shiftI, loadV, storeV, putV, indexAddrV, live, upd, pget, pset, psetA, pagg, retag, retagP, byteAV, freezeP, freezeV, joinTags, joinTag, tags, ids, scalar, cellsLen, eqV, convV, faV, fvV, shiftBy, shiftRo, hm, h8, h8J])
    apply Run.seq (fr' := [(0, .sl 0 0 b.length 0)]) (H' := [hoB (b.set q (orB (b.getD q 0) v k)) 0 z, nilB])
    · (refine ⟨0, ?_⟩; simp -implicitDefEqProofs [-getElem?_pos, List.getElem?_cons_zero, List.getElem?_cons_succ, exec, runOps, dstOk, wantedV, AM.step, evalT, evalO, evalArgs, evalParts, getF, putF, afterRegion, assignV, boxOf, newBox, hasIdsP, keepF, ofVal, ofCell, plen, pesz, callV, builtinV, lenV, binV, unV, arith, shiftI, loadV, storeV, putV, indexAddrV, live, upd, pget, pset, psetA, pagg, retag, retagP, byteAV, freezeP, freezeV, joinTags, joinTag, tags, ids, scalar, cellsLen, eqV, convV, faV, fvV, shiftBy, shiftRo, hdq, hdq2, hkI, hkB, hw, hr0, hr8, hmr, hmr2, hq, hr, hrw, hu1, hu2, IntKind.bits, orB, List.getD_eq_getElem?_getD, hoB, nilB])
    · refine ⟨0, ?_⟩
      simp -implicitDefEqProofs [-getElem?_pos, List.getElem?_cons_zero, List.getElem?_cons_succ, exec, runOps, dstOk, wantedV, AM.step, evalT, evalO, evalArgs, evalParts, getF, putF, afterRegion, assignV, boxOf, newBox, hasIdsP, keepF, ofVal, ofCell, plen, pesz, callV, builtinV, lenV, binV, unV, arith, shiftI, loadV, storeV, putV, indexAddrV, live, upd, pget, pset, psetA, pagg, retag, retagP, byteAV, freezeP, freezeV, joinTags, joinTag, tags, ids, scalar, cellsLen, eqV, convV, faV, fvV, shiftBy, shiftRo, h8, hq]

end Go.Proofs.Ytikleidhmekgnaa
