/- Walks: counts. -/
import Derived.Test.YtikleidhmekgnaaX
import Derived.Test.YtikleidhmekgnaaAm3
namespace Go.Proofs.Ytikleidhmekgnaa
open Go.AM
set_option linter.unusedSimpArgs false
set_option linter.unusedVariables false

/-- symbols of each length, on from n; 0, or the error -/
def countL : List Int → List Int → List Int × Int
  | n, [] => (n, 0)
  | n, x :: r => if 0 ≤ x ∧ x ≤ 15 then countL (n.set x.toNat (IntKind.i64.wrap (n.getD x.toNat 0 + 1))) r else (n, 2)

def z16 : List Int := [0, 0, 0, 0, 0, 0, 0, 0, 0, 0, 0, 0, 0, 0, 0, 0]
def countsR (l : List Int) : List Int × Int := if 320 < (l.length : Int) then (z16, 3) else countL z16 l

def bx (n : List Int) : Option AM.Obj := some { p := .pi .i64 n, g := 0, cap := some 16, z := 1, row := false, ids := false, tg := 0 }

theorem countL_len : ∀ (l n : List Int), (countL n l).1.length = n.length
  | [], n => rfl
  | x :: r, n => by
    simp only [countL]
    split
    · rw [countL_len r]; simp
    · rfl

/-- what the loop leaves -/
def countsO (c : Nat) (l n todo : List Int) : AM.Out :=
  if (countL n todo).2 = 0 then ⟨.exit 0, [(2, .ptr 0 0 0 0), (4, .ptr 1 0 0 0), (11, .ro c (.pi .i64 l) 1), (12, .int .i64 l.length), (13, .int .i64 l.length), (14, .bool false)], [bx z16, bx (countL n todo).1]⟩
  else ⟨.ret, [(2, .ptr 0 0 0 0), (3, .int .i64 (countL n todo).2)], [bx (countL n todo).1, bx (countL n todo).1]⟩

set_option maxRecDepth 100000 in
theorem counts_code (T : Cf) (c : Nat) (l : List Int) (h63 : l.length < 9223372036854775808) : ∃ code, Try.f21.body = some code ∧
    Run X T 21 0 code [(0, .ro c (.pi .i64 l) 1)] [] ⟨.ret, [(2, .ptr 0 0 0 0), (3, .int .i64 (countsR l).2)], [bx (countsR l).1, bx (countsR l).1]⟩ := by
  refine ⟨_, rfl, ?_⟩
  by_cases hl : 320 < (l.length : Int)
  · simp only [countsR, hl, if_true]
    apply Run.seq
    · (refine ⟨0, ?_⟩; conv => lhs; simp -implicitDefEqProofs [-getElem?_pos, List.getElem?_cons_zero, List.getElem?_cons_succ, exec, runOps, dstOk, wantedV, AM.step, evalT, evalO, evalArgs, evalParts, getF, putF, afterRegion, assignV, boxOf, newBox, hasIdsP, keepF, ofVal, ofCell, plen, pesz, callV, builtinV, lenV, binV, unV, arith, shiftI, loadV, storeV, putV, indexAddrV, live, upd, pget, pset, psetA, pagg, retag, retagP, byteAV, freezeP, freezeV, joinTags, joinTag, tags, ids, scalar, cellsLen, eqV, convV, faV, fvV, shiftBy, shiftRo])
    apply Run.seq
    · (refine ⟨0, ?_⟩; conv => lhs; simp -implicitDefEqProofs [-getElem?_pos, List.getElem?_cons_zero, List.getElem?_cons_succ, exec, runOps, dstOk, wantedV, AM.step, evalT, evalO, evalArgs, evalParts, getF, putF, afterRegion, assignV, boxOf, newBox, hasIdsP, keepF, ofVal, ofCell, plen, pesz, callV, builtinV, lenV, binV, unV, arith, shiftI, loadV, storeV, putV, indexAddrV, live, upd, pget, pset, psetA, pagg, retag, retagP, byteAV, freezeP, freezeV, joinTags, joinTag, tags, ids, scalar, cellsLen, eqV, convV, faV, fvV, shiftBy, shiftRo])
    apply Run.seq_out
    · apply Run.seq
      · (refine ⟨0, ?_⟩; conv => lhs; simp -implicitDefEqProofs [-getElem?_pos, List.getElem?_cons_zero, List.getElem?_cons_succ, exec, runOps, dstOk, wantedV, AM.step, evalT, evalO, evalArgs, evalParts, getF, putF, afterRegion, assignV, boxOf, newBox, hasIdsP, keepF, ofVal, ofCell, plen, pesz, callV, builtinV, lenV, binV, unV, arith, shiftI, loadV, storeV, putV, indexAddrV, live, upd, pget, pset, psetA, pagg, retag, retagP, byteAV, freezeP, freezeV, joinTags, joinTag, tags, ids, scalar, cellsLen, eqV, convV, faV, fvV, shiftBy, shiftRo, hl])
      · refine Run.cond (d := true) rfl ?_
        apply Run.seq
        · (refine ⟨0, ?_⟩; conv => lhs; simp -implicitDefEqProofs [-getElem?_pos, List.getElem?_cons_zero, List.getElem?_cons_succ, exec, runOps, dstOk, wantedV, AM.step, evalT, evalO, evalArgs, evalParts, getF, putF, afterRegion, assignV, boxOf, newBox, hasIdsP, keepF, ofVal, ofCell, plen, pesz, callV, builtinV, lenV, binV, unV, arith, shiftI, loadV, storeV, putV, indexAddrV, live, upd, pget, pset, psetA, pagg, retag, retagP, byteAV, freezeP, freezeV, joinTags, joinTag, tags, ids, scalar, cellsLen, eqV, convV, faV, fvV, shiftBy, shiftRo])
        · exact ⟨0, rfl⟩
    · simp
  · simp only [countsR, hl, if_false]
    apply Run.seq
    · (refine ⟨0, ?_⟩; conv => lhs; simp -implicitDefEqProofs [-getElem?_pos, List.getElem?_cons_zero, List.getElem?_cons_succ, exec, runOps, dstOk, wantedV, AM.step, evalT, evalO, evalArgs, evalParts, getF, putF, afterRegion, assignV, boxOf, newBox, hasIdsP, keepF, ofVal, ofCell, plen, pesz, callV, builtinV, lenV, binV, unV, arith, shiftI, loadV, storeV, putV, indexAddrV, live, upd, pget, pset, psetA, pagg, retag, retagP, byteAV, freezeP, freezeV, joinTags, joinTag, tags, ids, scalar, cellsLen, eqV, convV, faV, fvV, shiftBy, shiftRo])
    apply Run.seq
    · (refine ⟨0, ?_⟩; conv => lhs; simp -implicitDefEqProofs [-getElem?_pos, List.getElem?_cons_zero, List.getElem?_cons_succ, exec, runOps, dstOk, wantedV, AM.step, evalT, evalO, evalArgs, evalParts, getF, putF, afterRegion, assignV, boxOf, newBox, hasIdsP, keepF, ofVal, ofCell, plen, pesz, callV, builtinV, lenV, binV, unV, arith, shiftI, loadV, storeV, putV, indexAddrV, live, upd, pget, pset, psetA, pagg, retag, retagP, byteAV, freezeP, freezeV, joinTags, joinTag, tags, ids, scalar, cellsLen, eqV, convV, faV, fvV, shiftBy, shiftRo])
    apply Run.seq
    · apply Run.seq
      · (refine ⟨0, ?_⟩; conv => lhs; simp -implicitDefEqProofs [-getElem?_pos, List.getElem?_cons_zero, List.getElem?_cons_succ, exec, runOps, dstOk, wantedV, AM.step, evalT, evalO, evalArgs, evalParts, getF, putF, afterRegion, assignV, boxOf, newBox, hasIdsP, keepF, ofVal, ofCell, plen, pesz, callV, builtinV, lenV, binV, unV, arith, shiftI, loadV, storeV, putV, indexAddrV, live, upd, pget, pset, psetA, pagg, retag, retagP, byteAV, freezeP, freezeV, joinTags, joinTag, tags, ids, scalar, cellsLen, eqV, convV, faV, fvV, shiftBy, shiftRo, hl])
      · exact Run.cond (d := false) rfl ⟨0, rfl⟩
    -- the loop
    apply Run.seq' (o := blockOut 0 (countsO c l z16 l))
    · apply Run.seq
      · (refine ⟨0, ?_⟩; conv => lhs; simp -implicitDefEqProofs [-getElem?_pos, List.getElem?_cons_zero, List.getElem?_cons_succ, exec, runOps, dstOk, wantedV, AM.step, evalT, evalO, evalArgs, evalParts, getF, putF, afterRegion, assignV, boxOf, newBox, hasIdsP, keepF, ofVal, ofCell, plen, pesz, callV, builtinV, lenV, binV, unV, arith, shiftI, loadV, storeV, putV, indexAddrV, live, upd, pget, pset, psetA, pagg, retag, retagP, byteAV, freezeP, freezeV, joinTags, joinTag, tags, ids, scalar, cellsLen, eqV, convV, faV, fvV, shiftBy, shiftRo])
      · apply Run.block'
        refine Run.loop_rule (σ := List Int × List Int × List Int) (fun s => s.1.length = 16 ∧ s.2.1 ++ s.2.2 = l) (fun s => [(2, .ptr 0 0 0 0), (4, .ptr 1 0 0 0), (11, .ro c (.pi .i64 l) 1), (12, .int .i64 l.length), (13, .int .i64 (s.2.1.length : Nat))])
          (fun s => [bx z16, bx s.1]) (fun s => countsO c l s.1 s.2.2) (fun s => s.2.2.length) ?_ (z16, [], l) ⟨rfl, rfl⟩
        rintro ⟨n, done, todo⟩ ⟨hn, hd⟩
        simp only at hn hd ⊢
        cases todo with
        | nil =>
          right
          have hlen : done.length = l.length := by rw [← hd]; simp
          refine ⟨?_, by simp [countsO, countL]⟩
          simp only [countsO, countL, if_true]
          apply Run.seq
          · (refine ⟨0, ?_⟩; conv => lhs; simp -implicitDefEqProofs [-getElem?_pos, List.getElem?_cons_zero, List.getElem?_cons_succ, exec, runOps, dstOk, wantedV, AM.step, evalT, evalO, evalArgs, evalParts, getF, putF, afterRegion, assignV, boxOf, newBox, hasIdsP, keepF, ofVal, ofCell, plen, pesz, callV, builtinV, lenV, binV, unV, arith, shiftI, loadV, storeV, putV, indexAddrV, live, upd, pget, pset, psetA, pagg, retag, retagP, byteAV, freezeP, freezeV, joinTags, joinTag, tags, ids, scalar, cellsLen, eqV, convV, faV, fvV, shiftBy, shiftRo, hlen])
          · apply Run.seq_out
            · exact Run.cond (d := false) rfl ⟨0, rfl⟩
            · simp
        | cons x todo =>
          have hlt : done.length < l.length := by rw [← hd]; simp
          have hget : l[done.length]? = some x := by rw [← hd]; simp
          by_cases hx : 0 ≤ x ∧ x ≤ 15
          · left
            obtain ⟨v, hv⟩ : ∃ v, n[x.toNat]? = some v := ⟨n[x.toNat]'(by omega), List.getElem?_eq_getElem (by omega)⟩
            refine ⟨(n.set x.toNat (IntKind.i64.wrap (v + 1)), done ++ [x], todo), ⟨by simpa using hn, by simpa using hd⟩, ?_, ?_, by simp⟩
            · have hltI : (done.length : Int) < (l.length : Int) := by omega
              have hx1 : ¬ x < 0 := by omega
              have hx2 : ¬ 15 < x := by omega
              have hx3 : x < 16 := by omega
              have e : IntKind.i64.wrap ((done.length : Int) + 1) = (done.length : Int) + 1 := wrap_i64 (by omega) (by omega)
              apply Run.seq
              · (refine ⟨0, ?_⟩; conv => lhs; simp -implicitDefEqProofs [-getElem?_pos, List.getElem?_cons_zero, List.getElem?_cons_succ, exec, runOps, dstOk, wantedV, AM.step, evalT, evalO, evalArgs, evalParts, getF, putF, afterRegion, assignV, boxOf, newBox, hasIdsP, keepF, ofVal, ofCell, plen, pesz, callV, builtinV, lenV, binV, unV, arith, shiftI, loadV, storeV, putV, indexAddrV, live, upd, pget, pset, psetA, pagg, retag, retagP, byteAV, freezeP, freezeV, joinTags, joinTag, tags, ids, scalar, cellsLen, eqV, convV, faV, fvV, shiftBy, shiftRo, hltI])
              apply Run.seq
              · exact Run.cond (d := true) rfl ⟨0, rfl⟩
              apply Run.seq
              · apply Run.block
                · apply Run.seq
                  · (refine ⟨0, ?_⟩; conv => lhs; simp -implicitDefEqProofs [-getElem?_pos, List.getElem?_cons_zero, List.getElem?_cons_succ, exec, runOps, dstOk, wantedV, AM.step, evalT, evalO, evalArgs, evalParts, getF, putF, afterRegion, assignV, boxOf, newBox, hasIdsP, keepF, ofVal, ofCell, plen, pesz, callV, builtinV, lenV, binV, unV, arith, shiftI, loadV, storeV, putV, indexAddrV, live, upd, pget, pset, psetA, pagg, retag, retagP, byteAV, freezeP, freezeV, joinTags, joinTag, tags, ids, scalar, cellsLen, eqV, convV, faV, fvV, shiftBy, shiftRo, hget, hlt])
                  apply Run.seq
                  · apply Run.seq
                    · (refine ⟨0, ?_⟩; conv => lhs; simp -implicitDefEqProofs [-getElem?_pos, List.getElem?_cons_zero, List.getElem?_cons_succ, exec, runOps, dstOk, wantedV, AM.step, evalT, evalO, evalArgs, evalParts, getF, putF, afterRegion, assignV, boxOf, newBox, hasIdsP, keepF, ofVal, ofCell, plen, pesz, callV, builtinV, lenV, binV, unV, arith, shiftI, loadV, storeV, putV, indexAddrV, live, upd, pget, pset, psetA, pagg, retag, retagP, byteAV, freezeP, freezeV, joinTags, joinTag, tags, ids, scalar, cellsLen, eqV, convV, faV, fvV, shiftBy, shiftRo, hx1, hx2])
                    · exact Run.cond (d := false) rfl ⟨0, rfl⟩
                  · (refine ⟨0, ?_⟩; conv => lhs; simp -implicitDefEqProofs [-getElem?_pos, List.getElem?_cons_zero, List.getElem?_cons_succ, exec, runOps, dstOk, wantedV, AM.step, evalT, evalO, evalArgs, evalParts, getF, putF, afterRegion, assignV, boxOf, newBox, hasIdsP, keepF, ofVal, ofCell, plen, pesz, callV, builtinV, lenV, binV, unV, arith, shiftI, loadV, storeV, putV, indexAddrV, live, upd, pget, pset, psetA, pagg, retag, retagP, byteAV, freezeP, freezeV, joinTags, joinTag, tags, ids, scalar, cellsLen, eqV, convV, faV, fvV, shiftBy, shiftRo, hx.1, hx3, hv, bx, hn])
                · simp
              · (refine ⟨0, ?_⟩; simp -implicitDefEqProofs [-getElem?_pos, List.getElem?_cons_zero, List.getElem?_cons_succ, exec, runOps, dstOk, wantedV, AM.step, evalT, evalO, evalArgs, evalParts, getF, putF, afterRegion, assignV, boxOf, newBox, hasIdsP, keepF, ofVal, ofCell, plen, pesz, callV, builtinV, lenV, binV, unV, arith, shiftI, loadV, storeV, putV, indexAddrV, live, upd, pget, pset, psetA, pagg, retag, retagP, byteAV, freezeP, freezeV, joinTags, joinTag, tags, ids, scalar, cellsLen, eqV, convV, faV, fvV, shiftBy, shiftRo, e, bx, List.getD_eq_getElem?_getD, hv])
            · simp [countsO, countL, hx, List.getD_eq_getElem?_getD, hv]
          · right
            refine ⟨?_, by simp [countsO, countL, hx]⟩
            have hltI : (done.length : Int) < (l.length : Int) := by omega
            simp only [countsO, countL, hx, if_false]
            apply Run.seq
            · (refine ⟨0, ?_⟩; conv => lhs; simp -implicitDefEqProofs [-getElem?_pos, List.getElem?_cons_zero, List.getElem?_cons_succ, exec, runOps, dstOk, wantedV, AM.step, evalT, evalO, evalArgs, evalParts, getF, putF, afterRegion, assignV, boxOf, newBox, hasIdsP, keepF, ofVal, ofCell, plen, pesz, callV, builtinV, lenV, binV, unV, arith, shiftI, loadV, storeV, putV, indexAddrV, live, upd, pget, pset, psetA, pagg, retag, retagP, byteAV, freezeP, freezeV, joinTags, joinTag, tags, ids, scalar, cellsLen, eqV, convV, faV, fvV, shiftBy, shiftRo, hltI])
            apply Run.seq
            · exact Run.cond (d := true) rfl ⟨0, rfl⟩
            apply Run.seq_out
            · apply Run.block
              · apply Run.seq
                · (refine ⟨0, ?_⟩; conv => lhs; simp -implicitDefEqProofs [-getElem?_pos, List.getElem?_cons_zero, List.getElem?_cons_succ, exec, runOps, dstOk, wantedV, AM.step, evalT, evalO, evalArgs, evalParts, getF, putF, afterRegion, assignV, boxOf, newBox, hasIdsP, keepF, ofVal, ofCell, plen, pesz, callV, builtinV, lenV, binV, unV, arith, shiftI, loadV, storeV, putV, indexAddrV, live, upd, pget, pset, psetA, pagg, retag, retagP, byteAV, freezeP, freezeV, joinTags, joinTag, tags, ids, scalar, cellsLen, eqV, convV, faV, fvV, shiftBy, shiftRo, hget, hlt])
                apply Run.seq_out
                · refine Run.seq (fr' := [(2, .ptr 0 0 0 0), (4, .ptr 1 0 0 0), (6, .int .i64 x), (11, .ro c (.pi .i64 l) 1), (12, .int .i64 l.length), (13, .int .i64 done.length), (22, .bool true)]) (H' := [bx z16, bx n]) ⟨0, ?_⟩ ?_
                  · by_cases hx1 : x < 0
                    · simp -implicitDefEqProofs [-getElem?_pos, List.getElem?_cons_zero, List.getElem?_cons_succ, exec, runOps, dstOk, wantedV, AM.step, evalT, evalO, evalArgs, evalParts, getF, putF, afterRegion, assignV, boxOf, newBox, hasIdsP, keepF, ofVal, ofCell, plen, pesz, callV, builtinV, lenV, binV, unV, arith, shiftI, loadV, storeV, putV, indexAddrV, live, upd, pget, pset, psetA, pagg, retag, retagP, byteAV, freezeP, freezeV, joinTags, joinTag, tags, ids, scalar, cellsLen, eqV, convV, faV, fvV, shiftBy, shiftRo, hx1]
                    · have hx2 : 15 < x := by omega
                      simp -implicitDefEqProofs [-getElem?_pos, List.getElem?_cons_zero, List.getElem?_cons_succ, exec, runOps, dstOk, wantedV, AM.step, evalT, evalO, evalArgs, evalParts, getF, putF, afterRegion, assignV, boxOf, newBox, hasIdsP, keepF, ofVal, ofCell, plen, pesz, callV, builtinV, lenV, binV, unV, arith, shiftI, loadV, storeV, putV, indexAddrV, live, upd, pget, pset, psetA, pagg, retag, retagP, byteAV, freezeP, freezeV, joinTags, joinTag, tags, ids, scalar, cellsLen, eqV, convV, faV, fvV, shiftBy, shiftRo, hx1, hx2]
                  · refine Run.cond (d := true) rfl ?_
                    apply Run.seq
                    · (refine ⟨0, ?_⟩; conv => lhs; simp -implicitDefEqProofs [-getElem?_pos, List.getElem?_cons_zero, List.getElem?_cons_succ, exec, runOps, dstOk, wantedV, AM.step, evalT, evalO, evalArgs, evalParts, getF, putF, afterRegion, assignV, boxOf, newBox, hasIdsP, keepF, ofVal, ofCell, plen, pesz, callV, builtinV, lenV, binV, unV, arith, shiftI, loadV, storeV, putV, indexAddrV, live, upd, pget, pset, psetA, pagg, retag, retagP, byteAV, freezeP, freezeV, joinTags, joinTag, tags, ids, scalar, cellsLen, eqV, convV, faV, fvV, shiftBy, shiftRo, bx, z16, hn])
                    · exact ⟨0, rfl⟩
                · simp
              · simp
            · simp
    · intro fr' H' h
      unfold countsO at h
      split at h
      · rename_i he
        simp only [blockOut, if_true, Out.mk.injEq, true_and] at h
        obtain ⟨rfl, rfl⟩ := h
        rw [he]
        have hn := countL_len l z16
        generalize (countL z16 l).1 = n at hn ⊢
        have hn' : n.length = 16 := hn
        apply Run.seq
        · (refine ⟨0, ?_⟩; conv => lhs; simp -implicitDefEqProofs [-getElem?_pos, List.getElem?_cons_zero, List.getElem?_cons_succ, exec, runOps, dstOk, wantedV, AM.step, evalT, evalO, evalArgs, evalParts, getF, putF, afterRegion, assignV, boxOf, newBox, hasIdsP, keepF, ofVal, ofCell, plen, pesz, callV, builtinV, lenV, binV, unV, arith, shiftI, loadV, storeV, putV, indexAddrV, live, upd, pget, pset, psetA, pagg, retag, retagP, byteAV, freezeP, freezeV, joinTags, joinTag, tags, ids, scalar, cellsLen, eqV, convV, faV, fvV, shiftBy, shiftRo, bx, z16, hn'])
        · exact ⟨0, rfl⟩
      · simp [blockOut] at h
    · intro h
      unfold countsO at h ⊢
      split at h
      · simp [blockOut] at h
      · rename_i he
        rw [if_neg he]
        rfl
end Go.Proofs.Ytikleidhmekgnaa
