/- Walks: Codes. -/
import Derived.Test.YtikleidhmekgnaaW3
namespace Go.Proofs.Ytikleidhmekgnaa
open Go.AM
set_option linter.unusedSimpArgs false
set_option linter.unusedVariables false

/-- a nil slice of ints, a slice of ints with xs much room xs it has elements -/
def nilI : Option AM.Obj := some { p := .pi .i64 [], g := 0, cap := .none, z := 0, row := true, ids := false, tg := 0 }
def rowI (k : Nat) (l : List Int) : Option AM.Obj := some { p := .pi .i64 l, g := 0, cap := some k, z := 1, row := true, ids := false, tg := 0 }

/-- codes by lengths, the next code of each length -/
def codesL : List Int → List Int → List Int
  | _, [] => []
  | next, x :: r => if 0 < x then next.getD x.toNat 0 :: codesL (next.set x.toNat (IntKind.i64.wrap (next.getD x.toNat 0 + 1))) r else -1 :: codesL next r

/-- what is next behind them -/
def codesN : List Int → List Int → List Int
  | next, [] => next
  | next, x :: r => if 0 < x then codesN (next.set x.toNat (IntKind.i64.wrap (next.getD x.toNat 0 + 1))) r else codesN next r

theorem codesL_len : ∀ (next l : List Int), (codesL next l).length = l.length
  | _, [] => rfl
  | next, x :: r => by
    simp only [codesL]
    split <;> simp [codesL_len _ r]

def codesR (l : List Int) : List Int := codesL (firstsR (countsR l).1) l

theorem set_mid (pre : List Int) (v w : Int) (n k : Nat) (h : k = pre.length) : (pre ++ List.replicate (n + 1) v).set k w = (pre ++ [w]) ++ List.replicate n v := by
  subst h
  rw [List.set_append_right _ _ (Nat.le_refl _), Nat.sub_self, List.replicate_succ, List.set_cons_zero]
  simp

set_option maxRecDepth 100000 in
/-- a code that may not be -/
theorem codes_bad (c : Nat) (l : List Int) (h63 : l.length < 9223372036854775808) (he : (checkR l).2 ≠ 0) : ∃ code, Try.f14.body = some code ∧
    Run X T2 14 0 code [(0, .ro c (.pi .i64 l) 1)] [] ⟨.ret, [(2, .sl 1 0 0 0), (3, .int .i64 (checkR l).2)], [nilI, nilI]⟩ := by
  refine ⟨_, rfl, ?_⟩
  have hT := fun H => T2_check (H := H) (a := .ro c (.pi .i64 l) 1) rfl h63
  unfold ckV at hT
  have hb : ((checkR l).2 != 0) = true := by simpa using he
  refine ⟨0, ?_⟩
  simp -implicitDefEqProofs [-getElem?_pos, List.getElem?_cons_zero, List.getElem?_cons_succ, exec, runOps, dstOk, wantedV, AM.step, evalT, evalO, evalArgs, evalParts, getF, putF, afterRegion, assignV, boxOf, newBox, hasIdsP, keepF, ofVal, ofCell, plen, pesz, callV, builtinV, lenV, binV, unV, arith, shiftI, loadV, storeV, putV, indexAddrV, live, upd, pget, pset, psetA, pagg, retag, retagP, byteAV, freezeP, freezeV, joinTags, joinTag, tags, ids, scalar, cellsLen, eqV, convV, faV, fvV, shiftBy, shiftRo, hT, hb, he, rowOf, emptyRow, nilI]

/-- the frame of Codes' loop -/
def coFr (c : Nat) (l : List Int) (i : Nat) : AM.Frame := [(8, .ptr 2 0 0 0), (9, .sl 3 0 l.length 0), (30, .ro c (.pi .i64 l) 1), (31, .int .i64 l.length), (32, .int .i64 (i : Nat))]

set_option maxRecDepth 100000 in
theorem codes_code (c : Nat) (l : List Int) (he : (checkR l).2 = 0) : ∃ code, Try.f14.body = some code ∧
    Run X T2 14 0 code [(0, .ro c (.pi .i64 l) 1)] [] ⟨.ret, [(2, .sl 3 0 l.length 0), (3, .int .i64 0)], [nilI, bx (countsR l).1, bx17 (codesN (firstsR (countsR l).1) l), rowI l.length (codesR l)]⟩ := by
  have hce : (countsR l).2 = 0 := by
    unfold checkR at he
    split at he
    · assumption
    · rename_i h; exact absurd he h
  obtain ⟨h320, hall⟩ := countsR_ok hce
  have h63 : l.length < 9223372036854775808 := by omega
  have hn := countsR_len l
  have hm1 : (l.length : Int) ≤ 9223372036854775807 := by omega
  have hm2 : 8 * (l.length : Int) ≤ 140737488355328 := by omega
  have hT := fun H => T2_check (H := H) (a := .ro c (.pi .i64 l) 1) rfl h63
  have hC := fun H => T2_counts (H := H) (a := .ro c (.pi .i64 l) 1) rfl h63
  have hF := fun H => T2_firsts (H := H) hn
  unfold ckV at hT
  unfold cnt at hC
  unfold codesR
  rw [hce] at hC
  have hf : (firstsR (countsR l).1).length = 17 := firstL_len _ _ _ _
  generalize (countsR l).1 = n at hn hC hF hf ⊢
  generalize firstsR n = next0 at hF hf ⊢
  refine ⟨_, rfl, ?_⟩
  apply Run.seq
  · (refine ⟨0, ?_⟩; conv => lhs; simp -implicitDefEqProofs [-getElem?_pos, List.getElem?_cons_zero, List.getElem?_cons_succ, exec, runOps, dstOk, wantedV, AM.step, evalT, evalO, evalArgs, evalParts, getF, putF, afterRegion, assignV, boxOf, newBox, hasIdsP, keepF, ofVal, ofCell, plen, pesz, callV, builtinV, lenV, binV, unV, arith, shiftI, loadV, storeV, putV, indexAddrV, live, upd, pget, pset, psetA, pagg, retag, retagP, byteAV, freezeP, freezeV, joinTags, joinTag, tags, ids, scalar, cellsLen, eqV, convV, faV, fvV, shiftBy, shiftRo, rowOf, emptyRow])
  apply Run.seq
  · (refine ⟨0, ?_⟩; conv => lhs; simp -implicitDefEqProofs [-getElem?_pos, List.getElem?_cons_zero, List.getElem?_cons_succ, exec, runOps, dstOk, wantedV, AM.step, evalT, evalO, evalArgs, evalParts, getF, putF, afterRegion, assignV, boxOf, newBox, hasIdsP, keepF, ofVal, ofCell, plen, pesz, callV, builtinV, lenV, binV, unV, arith, shiftI, loadV, storeV, putV, indexAddrV, live, upd, pget, pset, psetA, pagg, retag, retagP, byteAV, freezeP, freezeV, joinTags, joinTag, tags, ids, scalar, cellsLen, eqV, convV, faV, fvV, shiftBy, shiftRo, hT, he])
  apply Run.seq
  · (refine ⟨0, ?_⟩; conv => lhs; simp -implicitDefEqProofs [-getElem?_pos, List.getElem?_cons_zero, List.getElem?_cons_succ, exec, runOps, dstOk, wantedV, AM.step, evalT, evalO, evalArgs, evalParts, getF, putF, afterRegion, assignV, boxOf, newBox, hasIdsP, keepF, ofVal, ofCell, plen, pesz, callV, builtinV, lenV, binV, unV, arith, shiftI, loadV, storeV, putV, indexAddrV, live, upd, pget, pset, psetA, pagg, retag, retagP, byteAV, freezeP, freezeV, joinTags, joinTag, tags, ids, scalar, cellsLen, eqV, convV, faV, fvV, shiftBy, shiftRo, hC, hn])
  apply Run.seq
  · (refine ⟨0, ?_⟩; conv => lhs; simp -implicitDefEqProofs [-getElem?_pos, List.getElem?_cons_zero, List.getElem?_cons_succ, exec, runOps, dstOk, wantedV, AM.step, evalT, evalO, evalArgs, evalParts, getF, putF, afterRegion, assignV, boxOf, newBox, hasIdsP, keepF, ofVal, ofCell, plen, pesz, callV, builtinV, lenV, binV, unV, arith, shiftI, loadV, storeV, putV, indexAddrV, live, upd, pget, pset, psetA, pagg, retag, retagP, byteAV, freezeP, freezeV, joinTags, joinTag, tags, ids, scalar, cellsLen, eqV, convV, faV, fvV, shiftBy, shiftRo, hF, hn, hf])
  apply Run.seq (fr' := [(0, .ro c (.pi .i64 l) 1), (8, .ptr 2 0 0 0), (9, .sl 3 0 l.length 0)]) (H' := [nilI, bx n, bx17 next0, rowI l.length (List.replicate l.length 0)])
  · (refine ⟨0, ?_⟩; simp -implicitDefEqProofs [-getElem?_pos, List.getElem?_cons_zero, List.getElem?_cons_succ, exec, runOps, dstOk, wantedV, AM.step, evalT, evalO, evalArgs, evalParts, getF, putF, afterRegion, assignV, boxOf, newBox, hasIdsP, keepF, ofVal, ofCell, plen, pesz, callV, builtinV, lenV, binV, unV, arith, shiftI, loadV, storeV, putV, indexAddrV, live, upd, pget, pset, psetA, pagg, retag, retagP, byteAV, freezeP, freezeV, joinTags, joinTag, tags, ids, scalar, cellsLen, eqV, convV, faV, fvV, shiftBy, shiftRo, makeSliceV, zeroRow, cellsAV, scalars, idsL, ids, tagsL, rowOf, hm1, hm2, nilI, bx, bx17, rowI])
  apply Run.seq (fr' := coFr c l l.length ++ [(33, .bool false)]) (H' := [nilI, bx n, bx17 (codesN next0 l), rowI l.length (codesL next0 l)])
  · apply Run.seq (fr' := coFr c l 0) (H' := [nilI, bx n, bx17 next0, rowI l.length ([] ++ List.replicate l.length 0)])
    · (refine ⟨0, ?_⟩; simp -implicitDefEqProofs [-getElem?_pos, List.getElem?_cons_zero, List.getElem?_cons_succ, exec, runOps, dstOk, wantedV, AM.step, evalT, evalO, evalArgs, evalParts, getF, putF, afterRegion, assignV, boxOf, newBox, hasIdsP, keepF, ofVal, ofCell, plen, pesz, callV, builtinV, lenV, binV, unV, arith, shiftI, loadV, storeV, putV, indexAddrV, live, upd, pget, pset, psetA, pagg, retag, retagP, byteAV, freezeP, freezeV, joinTags, joinTag, tags, ids, scalar, cellsLen, eqV, convV, faV, fvV, shiftBy, shiftRo, coFr])
    · apply Run.block_exit
      refine Run.loop_rule (σ := List Int × List Int × List Int × List Int) (fun s => s.1.length = 17 ∧ s.2.1.length = s.2.2.1.length ∧ s.2.2.1 ++ s.2.2.2 = l) (fun s => coFr c l s.2.2.1.length)
        (fun s => [nilI, bx n, bx17 s.1, rowI l.length (s.2.1 ++ List.replicate s.2.2.2.length 0)])
        (fun s => ⟨.exit 0, coFr c l l.length ++ [(33, .bool false)], [nilI, bx n, bx17 (codesN s.1 s.2.2.2), rowI l.length (s.2.1 ++ codesL s.1 s.2.2.2)]⟩) (fun s => s.2.2.2.length) ?_ (next0, [], [], l) ⟨hf, rfl, rfl⟩
      rintro ⟨next, pre, done, todo⟩ ⟨hnx, hpre, hd⟩
      simp only at hnx hpre hd ⊢
      cases todo with
      | nil =>
        right
        have hlen : done.length = l.length := by rw [← hd]; simp
        refine ⟨?_, by simp⟩
        simp only [codesL, codesN, List.append_nil]
        apply Run.seq
        · (refine ⟨0, ?_⟩; conv => lhs; simp -implicitDefEqProofs [-getElem?_pos, List.getElem?_cons_zero, List.getElem?_cons_succ, exec, runOps, dstOk, wantedV, AM.step, evalT, evalO, evalArgs, evalParts, getF, putF, afterRegion, assignV, boxOf, newBox, hasIdsP, keepF, ofVal, ofCell, plen, pesz, callV, builtinV, lenV, binV, unV, arith, shiftI, loadV, storeV, putV, indexAddrV, live, upd, pget, pset, psetA, pagg, retag, retagP, byteAV, freezeP, freezeV, joinTags, joinTag, tags, ids, scalar, cellsLen, eqV, convV, faV, fvV, shiftBy, shiftRo, hlen, coFr])
        · apply Run.seq_out
          · exact Run.cond (d := false) rfl ⟨0, rfl⟩
          · simp
      | cons x todo =>
        left
        have hlt : done.length < l.length := by rw [← hd]; simp
        have hget : l[done.length]? = some x := by rw [← hd]; simp
        have hx := hall x (by rw [← hd]; simp)
        have hltI : (done.length : Int) < (l.length : Int) := by omega
        have e : IntKind.i64.wrap ((done.length : Int) + 1) = (done.length : Int) + 1 := wrap_i64 (by omega) (by omega)
        have hlp : done.length < (pre ++ List.replicate (todo.length + 1) (0 : Int)).length := by simp; omega
        have hset : ∀ w, (pre ++ List.replicate (todo.length + 1) 0).set done.length w = (pre ++ [w]) ++ List.replicate todo.length 0 := fun w => set_mid pre 0 w todo.length done.length hpre.symm
        generalize hP : pre ++ List.replicate (todo.length + 1) (0 : Int) = P at hlp hset
        by_cases hx0 : 0 < x
        · obtain ⟨v, hv⟩ : ∃ v, next[x.toNat]? = some v := ⟨next[x.toNat]'(by omega), List.getElem?_eq_getElem (by omega)⟩
          have hx17 : x < 17 := by omega
          have hn17 : x.toNat < 17 := by omega
          refine ⟨(next.set x.toNat (IntKind.i64.wrap (v + 1)), pre ++ [v], done ++ [x], todo), ⟨by simpa using hnx, by simpa using hpre, by simpa using hd⟩, ?_, ?_, by simp⟩
          · apply Run.seq
            · (refine ⟨0, ?_⟩; conv => lhs; simp -implicitDefEqProofs [-getElem?_pos, List.getElem?_cons_zero, List.getElem?_cons_succ, exec, runOps, dstOk, wantedV, AM.step, evalT, evalO, evalArgs, evalParts, getF, putF, afterRegion, assignV, boxOf, newBox, hasIdsP, keepF, ofVal, ofCell, plen, pesz, callV, builtinV, lenV, binV, unV, arith, shiftI, loadV, storeV, putV, indexAddrV, live, upd, pget, pset, psetA, pagg, retag, retagP, byteAV, freezeP, freezeV, joinTags, joinTag, tags, ids, scalar, cellsLen, eqV, convV, faV, fvV, shiftBy, shiftRo, hltI, coFr])
            apply Run.seq
            · exact Run.cond (d := true) rfl ⟨0, rfl⟩
            apply Run.seq
            · apply Run.block
              · (refine ⟨0, ?_⟩; conv => lhs; simp -implicitDefEqProofs [-getElem?_pos, List.getElem?_cons_zero, List.getElem?_cons_succ, exec, runOps, dstOk, wantedV, AM.step, evalT, evalO, evalArgs, evalParts, getF, putF, afterRegion, assignV, boxOf, newBox, hasIdsP, keepF, ofVal, ofCell, plen, pesz, callV, builtinV, lenV, binV, unV, arith, shiftI, loadV, storeV, putV, indexAddrV, live, upd, pget, pset, psetA, pagg, retag, retagP, byteAV, freezeP, freezeV, joinTags, joinTag, tags, ids, scalar, cellsLen, eqV, convV, faV, fvV, shiftBy, shiftRo, hget, hlt, nilI, bx, bx17, rowI, hx0, hx.1, hx17, hn17, hnx, hv, hlp])
              · simp
            · (refine ⟨0, ?_⟩; simp -implicitDefEqProofs [-getElem?_pos, List.getElem?_cons_zero, List.getElem?_cons_succ, exec, runOps, dstOk, wantedV, AM.step, evalT, evalO, evalArgs, evalParts, getF, putF, afterRegion, assignV, boxOf, newBox, hasIdsP, keepF, ofVal, ofCell, plen, pesz, callV, builtinV, lenV, binV, unV, arith, shiftI, loadV, storeV, putV, indexAddrV, live, upd, pget, pset, psetA, pagg, retag, retagP, byteAV, freezeP, freezeV, joinTags, joinTag, tags, ids, scalar, cellsLen, eqV, convV, faV, fvV, shiftBy, shiftRo, e, coFr, nilI, bx, bx17, rowI, hset])
          · simp [codesL, codesN, hx0, List.getD_eq_getElem?_getD, hv]
        · refine ⟨(next, pre ++ [-1], done ++ [x], todo), ⟨hnx, by simpa using hpre, by simpa using hd⟩, ?_, ?_, by simp⟩
          · apply Run.seq
            · (refine ⟨0, ?_⟩; conv => lhs; simp -implicitDefEqProofs [-getElem?_pos, List.getElem?_cons_zero, List.getElem?_cons_succ, exec, runOps, dstOk, wantedV, AM.step, evalT, evalO, evalArgs, evalParts, getF, putF, afterRegion, assignV, boxOf, newBox, hasIdsP, keepF, ofVal, ofCell, plen, pesz, callV, builtinV, lenV, binV, unV, arith, shiftI, loadV, storeV, putV, indexAddrV, live, upd, pget, pset, psetA, pagg, retag, retagP, byteAV, freezeP, freezeV, joinTags, joinTag, tags, ids, scalar, cellsLen, eqV, convV, faV, fvV, shiftBy, shiftRo, hltI, coFr])
            apply Run.seq
            · exact Run.cond (d := true) rfl ⟨0, rfl⟩
            apply Run.seq
            · apply Run.block
              · (refine ⟨0, ?_⟩; conv => lhs; simp -implicitDefEqProofs [-getElem?_pos, List.getElem?_cons_zero, List.getElem?_cons_succ, exec, runOps, dstOk, wantedV, AM.step, evalT, evalO, evalArgs, evalParts, getF, putF, afterRegion, assignV, boxOf, newBox, hasIdsP, keepF, ofVal, ofCell, plen, pesz, callV, builtinV, lenV, binV, unV, arith, shiftI, loadV, storeV, putV, indexAddrV, live, upd, pget, pset, psetA, pagg, retag, retagP, byteAV, freezeP, freezeV, joinTags, joinTag, tags, ids, scalar, cellsLen, eqV, convV, faV, fvV, shiftBy, shiftRo, hget, hlt, nilI, bx, bx17, rowI, hx0, hlp])
              · simp
            · (refine ⟨0, ?_⟩; simp -implicitDefEqProofs [-getElem?_pos, List.getElem?_cons_zero, List.getElem?_cons_succ, exec, runOps, dstOk, wantedV, AM.step, evalT, evalO, evalArgs, evalParts, getF, putF, afterRegion, assignV, boxOf, newBox, hasIdsP, keepF, ofVal, ofCell, plen, pesz, callV, builtinV, lenV, binV, unV, arith, shiftI, loadV, storeV, putV, indexAddrV, live, upd, pget, pset, psetA, pagg, retag, retagP, byteAV, freezeP, freezeV, joinTags, joinTag, tags, ids, scalar, cellsLen, eqV, convV, faV, fvV, shiftBy, shiftRo, e, coFr, nilI, bx, bx17, rowI, hset])
          · simp [codesL, codesN, hx0]
  apply Run.seq
  · (refine ⟨0, ?_⟩; conv => lhs; simp -implicitDefEqProofs [-getElem?_pos, List.getElem?_cons_zero, List.getElem?_cons_succ, exec, runOps, dstOk, wantedV, AM.step, evalT, evalO, evalArgs, evalParts, getF, putF, afterRegion, assignV, boxOf, newBox, hasIdsP, keepF, ofVal, ofCell, plen, pesz, callV, builtinV, lenV, binV, unV, arith, shiftI, loadV, storeV, putV, indexAddrV, live, upd, pget, pset, psetA, pagg, retag, retagP, byteAV, freezeP, freezeV, joinTags, joinTag, tags, ids, scalar, cellsLen, eqV, convV, faV, fvV, shiftBy, shiftRo, coFr])
  · exact ⟨0, rfl⟩

end Go.Proofs.Ytikleidhmekgnaa
