/- Walks: reader's loop. -/
import Derived.Test.YtikleidhmekgnaaWL
namespace Go.Proofs.Ytikleidhmekgnaa
open Go.AM
set_option linter.unusedSimpArgs false
set_option linter.unusedVariables false

def rlFr (c : Nat) (l : List Int) (i : Nat) : AM.Frame := [(4, .ptr 0 0 0 0), (5, .ptr 1 0 0 0), (7, .ptr 2 0 0 0), (9, .ptr 3 0 0 0), (10, .ptr 4 0 0 0), (11, .ptr 5 0 0 0), (21, .ro c (.pi .i64 l) 1), (22, .int .i64 l.length), (23, .int .i64 (i : Nat))]

set_option maxRecDepth 100000 in
theorem reader_code (c c2 : Nat) (l : List Int) (b : List UInt8) (a : Int) (hl : l.length ≤ 320) (hf : fine l = true) : ∃ code, Try.f22.body = some code ∧
    ∃ o, Run X T2 22 0 code [(0, .ro c (.pi .i64 l) 1), (1, .ro c2 (.pb b) 2), (2, .int .i64 a)] [] o ∧
      (∃ ks, okKs ks l ∧ o = ⟨.ret, [(6, .fn 26 [.ptr 5 0 0 0, .ptr 1 0 0 0, .ptr 0 0 0 0, .ptr 3 0 0 0, .ptr 2 0 0 0, .ptr 4 0 0 0])], rdH c2 b a (countsR l).1 (firstsR (countsR l).1) ks l (mxL 0 l)⟩) := by
  refine ⟨_, rfl, ?_⟩
  have hc := fun H => T2_counts (H := H) (a := .ro c (.pi .i64 l) 1) (l := l) rfl (by omega)
  unfold cnt at hc
  have hfi := fun H => T2_firsts (H := H) (countsR_len l)
  have hnl := countsR_len l
  have hfl : (firstsR (countsR l).1).length = 17 := by unfold firstsR; rw [firstL_len]; rfl
  generalize (countsR l).1 = n at *
  generalize firstsR n = fi at *
  apply seq_ex
  · (refine ⟨0, ?_⟩; conv => lhs; simp -implicitDefEqProofs [-getElem?_pos, List.getElem?_cons_zero, List.getElem?_cons_succ, exec, runOps, dstOk, wantedV, AM.step, evalT, evalO, evalArgs, evalParts, getF, putF, afterRegion, assignV, boxOf, newBox, hasIdsP, keepF, ofVal, ofCell, plen, pesz, callV, builtinV, lenV, binV, unV, arith, shiftI, loadV, storeV, putV, indexAddrV, live, upd, pget, pset, psetA, pagg, retag, retagP, byteAV, freezeP, freezeV, joinTags, joinTag, tags, ids, scalar, cellsLen, eqV, convV, faV, fvV, shiftBy, shiftRo])
  apply seq_ex
  · (refine ⟨0, ?_⟩; conv => lhs; simp -implicitDefEqProofs [-getElem?_pos, List.getElem?_cons_zero, List.getElem?_cons_succ, exec, runOps, dstOk, wantedV, AM.step, evalT, evalO, evalArgs, evalParts, getF, putF, afterRegion, assignV, boxOf, newBox, hasIdsP, keepF, ofVal, ofCell, plen, pesz, callV, builtinV, lenV, binV, unV, arith, shiftI, loadV, storeV, putV, indexAddrV, live, upd, pget, pset, psetA, pagg, retag, retagP, byteAV, freezeP, freezeV, joinTags, joinTag, tags, ids, scalar, cellsLen, eqV, convV, faV, fvV, shiftBy, shiftRo, hc, hnl])
  apply seq_ex
  · (refine ⟨0, ?_⟩; conv => lhs; simp -implicitDefEqProofs [-getElem?_pos, List.getElem?_cons_zero, List.getElem?_cons_succ, exec, runOps, dstOk, wantedV, AM.step, evalT, evalO, evalArgs, evalParts, getF, putF, afterRegion, assignV, boxOf, newBox, hasIdsP, keepF, ofVal, ofCell, plen, pesz, callV, builtinV, lenV, binV, unV, arith, shiftI, loadV, storeV, putV, indexAddrV, live, upd, pget, pset, psetA, pagg, retag, retagP, byteAV, freezeP, freezeV, joinTags, joinTag, tags, ids, scalar, cellsLen, eqV, convV, faV, fvV, shiftBy, shiftRo, hfi, hnl, hfl])
  apply seq_ex
  · (refine ⟨0, ?_⟩; conv => lhs; simp -implicitDefEqProofs [-getElem?_pos, List.getElem?_cons_zero, List.getElem?_cons_succ, exec, runOps, dstOk, wantedV, AM.step, evalT, evalO, evalArgs, evalParts, getF, putF, afterRegion, assignV, boxOf, newBox, hasIdsP, keepF, ofVal, ofCell, plen, pesz, callV, builtinV, lenV, binV, unV, arith, shiftI, loadV, storeV, putV, indexAddrV, live, upd, pget, pset, psetA, pagg, retag, retagP, byteAV, freezeP, freezeV, joinTags, joinTag, tags, ids, scalar, cellsLen, eqV, convV, faV, fvV, shiftBy, shiftRo])
  apply seq_ex
  · (refine ⟨0, ?_⟩; conv => lhs; simp -implicitDefEqProofs [-getElem?_pos, List.getElem?_cons_zero, List.getElem?_cons_succ, exec, runOps, dstOk, wantedV, AM.step, evalT, evalO, evalArgs, evalParts, getF, putF, afterRegion, assignV, boxOf, newBox, hasIdsP, keepF, ofVal, ofCell, plen, pesz, callV, builtinV, lenV, binV, unV, arith, shiftI, loadV, storeV, putV, indexAddrV, live, upd, pget, pset, psetA, pagg, retag, retagP, byteAV, freezeP, freezeV, joinTags, joinTag, tags, ids, scalar, cellsLen, eqV, convV, faV, fvV, shiftBy, shiftRo])
  refine seqB_ex (P := fun o => ∃ ks, okKs ks l ∧ o = ⟨.exit 0, rlFr c l l.length ++ [(24, .bool false)], rdH c2 b a n fi ks l (mxL 0 l)⟩) (fr1 := rlFr c l 0) (H1 := rdH c2 b a n fi [] [] 0) ?_ (loop_pred (σ := (List Int × List Int) × (List Int × Int)) (fun t => t.1.1 ++ t.1.2 = l ∧ okKs t.2.1 t.1.1 ∧ mxL t.2.2 t.1.2 = mxL 0 l) (fun t => rlFr c l t.1.1.length) (fun t => rdH c2 b a n fi t.2.1 t.1.1 t.2.2) (fun t o => ∃ ks, okKs ks l ∧ o = ⟨.exit 0, rlFr c l l.length ++ [(24, .bool false)], rdH c2 b a n fi ks l (mxL 0 l)⟩) (fun t => t.1.2.length) ?_ (([], l), ([], 0)) ⟨rfl, ⟨by simp, by simp⟩, rfl⟩) ?_
  · (refine ⟨0, ?_⟩; simp -implicitDefEqProofs [-getElem?_pos, List.getElem?_cons_zero, List.getElem?_cons_succ, exec, runOps, dstOk, wantedV, AM.step, evalT, evalO, evalArgs, evalParts, getF, putF, afterRegion, assignV, boxOf, newBox, hasIdsP, keepF, ofVal, ofCell, plen, pesz, callV, builtinV, lenV, binV, unV, arith, shiftI, loadV, storeV, putV, indexAddrV, live, upd, pget, pset, psetA, pagg, retag, retagP, byteAV, freezeP, freezeV, joinTags, joinTag, tags, ids, scalar, cellsLen, eqV, convV, faV, fvV, shiftBy, shiftRo, rlFr, rdH, xs16, syV, boxV, arrI, arrS])
  · rintro ⟨⟨done, todo⟩, ⟨ks, m⟩⟩ ⟨hd, hk, hm⟩
    simp only at hd hk hm ⊢
    cases todo with
    | nil =>
      have hlen : done.length = l.length := by rw [← hd]; simp
      have hdl : done = l := by simpa using hd
      subst hdl
      have hm' : m = mxL 0 done := by simpa [mxL] using hm
      refine ⟨⟨.exit 0, rlFr c done done.length ++ [(24, .bool false)], rdH c2 b a n fi ks done (mxL 0 done)⟩, ?_, .inr ⟨by simp, ks, hk, rfl⟩⟩
      rw [hm']
      apply Run.seq
      · (refine ⟨0, ?_⟩; conv => lhs; simp -implicitDefEqProofs [-getElem?_pos, List.getElem?_cons_zero, List.getElem?_cons_succ, exec, runOps, dstOk, wantedV, AM.step, evalT, evalO, evalArgs, evalParts, getF, putF, afterRegion, assignV, boxOf, newBox, hasIdsP, keepF, ofVal, ofCell, plen, pesz, callV, builtinV, lenV, binV, unV, arith, shiftI, loadV, storeV, putV, indexAddrV, live, upd, pget, pset, psetA, pagg, retag, retagP, byteAV, freezeP, freezeV, joinTags, joinTag, tags, ids, scalar, cellsLen, eqV, convV, faV, fvV, shiftBy, shiftRo, rlFr])
      apply Run.seq_out
      · (refine ⟨0, ?_⟩; simp -implicitDefEqProofs [-getElem?_pos, List.getElem?_cons_zero, List.getElem?_cons_succ, exec, runOps, dstOk, wantedV, AM.step, evalT, evalO, evalArgs, evalParts, getF, putF, afterRegion, assignV, boxOf, newBox, hasIdsP, keepF, ofVal, ofCell, plen, pesz, callV, builtinV, lenV, binV, unV, arith, shiftI, loadV, storeV, putV, indexAddrV, live, upd, pget, pset, psetA, pagg, retag, retagP, byteAV, freezeP, freezeV, joinTags, joinTag, tags, ids, scalar, cellsLen, eqV, convV, faV, fvV, shiftBy, shiftRo, rlFr])
      · simp
    | cons x todo =>
      have hlt : done.length < l.length := by rw [← hd]; simp
      have hget : l[done.length]? = some x := by rw [← hd]; simp
      have hltI : (done.length : Int) < (l.length : Int) := by omega
      have e : IntKind.i64.wrap ((done.length : Int) + 1) = (done.length : Int) + 1 := wrap_i64 (by omega) (by omega)
      have hx : 0 ≤ x ∧ x ≤ 15 := by
        have := List.all_eq_true.1 hf x (by rw [← hd]; simp)
        simpa using this
      obtain ⟨o2, n2, g2, R', ks', happ, hk', hset, hR⟩ := rd_step [boxV (.ro c2 (.pb b) 2) 0, boxV (.int .i64 a) 0, arrI 16 n 0, arrI 17 fi 0, arrS (xs16.map (syV 6 0 ks done true)) 0, boxV (.int .i64 m) 0] rfl ks done x hx hk (by omega)
      refine ⟨⟨.normal, rlFr c l (done ++ [x]).length, rdH c2 b a n fi ks' (done ++ [x]) (if m < x then x else m)⟩, ?_, .inl ⟨((done ++ [x], todo), (ks', if m < x then x else m)), ⟨by simpa using hd, hk', by rw [← hm]; rfl⟩, rfl, fun _ h => h, by simp⟩⟩
      have hS : (xs16.map (syV 6 0 ks done true))[x.toNat]? = some (syV 6 0 ks done true x) := by rw [List.getElem?_map, xs16_at hx]; rfl
      have hSl : (xs16.map (syV 6 0 ks done true)).length = 16 := by simp [xs16]
      unfold rdH
      rw [← hset, ← hR]
      generalize hA : xs16.map (syV 6 0 ks done true) = A at *
      generalize syV 6 0 ks done true x = v at *
      generalize ks.map (fun x => pRow (posL x done 0) ((posL x done 0).length - 1) 0) = R at *
      simp only [boxV, arrI, arrS, List.cons_append, List.nil_append] at happ ⊢
      have hx16 : x < 16 := by omega
      have hx0 := hx.1
      apply Run.seq
      · (refine ⟨0, ?_⟩; conv => lhs; simp -implicitDefEqProofs [-getElem?_pos, List.getElem?_cons_zero, List.getElem?_cons_succ, exec, runOps, dstOk, wantedV, AM.step, evalT, evalO, evalArgs, evalParts, getF, putF, afterRegion, assignV, boxOf, newBox, hasIdsP, keepF, ofVal, ofCell, plen, pesz, callV, builtinV, lenV, binV, unV, arith, shiftI, loadV, storeV, putV, indexAddrV, live, upd, pget, pset, psetA, pagg, retag, retagP, byteAV, freezeP, freezeV, joinTags, joinTag, tags, ids, scalar, cellsLen, eqV, convV, faV, fvV, shiftBy, shiftRo, rlFr, hltI])
      apply Run.seq
      · (refine ⟨0, ?_⟩; conv => lhs; simp -implicitDefEqProofs [-getElem?_pos, List.getElem?_cons_zero, List.getElem?_cons_succ, exec, runOps, dstOk, wantedV, AM.step, evalT, evalO, evalArgs, evalParts, getF, putF, afterRegion, assignV, boxOf, newBox, hasIdsP, keepF, ofVal, ofCell, plen, pesz, callV, builtinV, lenV, binV, unV, arith, shiftI, loadV, storeV, putV, indexAddrV, live, upd, pget, pset, psetA, pagg, retag, retagP, byteAV, freezeP, freezeV, joinTags, joinTag, tags, ids, scalar, cellsLen, eqV, convV, faV, fvV, shiftBy, shiftRo])
      have hfr : ∀ i : Nat, rlFr c l i = [(4, .ptr 0 0 0 0), (5, .ptr 1 0 0 0), (7, .ptr 2 0 0 0), (9, .ptr 3 0 0 0), (10, .ptr 4 0 0 0), (11, .ptr 5 0 0 0), (21, .ro c (.pi .i64 l) 1), (22, .int .i64 l.length), (23, .int .i64 (i : Nat))] := fun _ => rfl
      apply Run.seq (fr' := rlFr c l done.length) (H' := [some { p := .pc [.ro c2 (.pb b) 2], g := 0, cap := some 1, z := 1, row := false, ids := true, tg := 0 }, some { p := .pc [.int .i64 a], g := 0, cap := some 1, z := 1, row := false, ids := true, tg := 0 }, some { p := .pi .i64 n, g := 0, cap := some 16, z := 1, row := false, ids := false, tg := 0 }, some { p := .pi .i64 fi, g := 0, cap := some 17, z := 1, row := false, ids := false, tg := 0 }, some { p := .pc (A.set x.toNat (.sl o2 0 n2 g2)), g := 0, cap := some 16, z := 1, row := false, ids := true, tg := 0 }, some { p := .pc [.int .i64 (if m < x then x else m)], g := 0, cap := some 1, z := 1, row := false, ids := true, tg := 0 }] ++ R')
      · apply Run.block
        · apply Run.seq
          · (refine ⟨0, ?_⟩; conv => lhs; simp -implicitDefEqProofs [-getElem?_pos, List.getElem?_cons_zero, List.getElem?_cons_succ, exec, runOps, dstOk, wantedV, AM.step, evalT, evalO, evalArgs, evalParts, getF, putF, afterRegion, assignV, boxOf, newBox, hasIdsP, keepF, ofVal, ofCell, plen, pesz, callV, builtinV, lenV, binV, unV, arith, shiftI, loadV, storeV, putV, indexAddrV, live, upd, pget, pset, psetA, pagg, retag, retagP, byteAV, freezeP, freezeV, joinTags, joinTag, tags, ids, scalar, cellsLen, eqV, convV, faV, fvV, shiftBy, shiftRo, hget, hlt])
          apply Run.seq (fr' := [(4, .ptr 0 0 0 0), (5, .ptr 1 0 0 0), (7, .ptr 2 0 0 0), (9, .ptr 3 0 0 0), (10, .ptr 4 0 0 0), (11, .ptr 5 0 0 0), (13, .int .i64 x), (21, .ro c (.pi .i64 l) 1), (22, .int .i64 l.length), (23, .int .i64 (done.length : Nat))]) (H' := [some { p := .pc [.ro c2 (.pb b) 2], g := 0, cap := some 1, z := 1, row := false, ids := true, tg := 0 }, some { p := .pc [.int .i64 a], g := 0, cap := some 1, z := 1, row := false, ids := true, tg := 0 }, some { p := .pi .i64 n, g := 0, cap := some 16, z := 1, row := false, ids := false, tg := 0 }, some { p := .pi .i64 fi, g := 0, cap := some 17, z := 1, row := false, ids := false, tg := 0 }, some { p := .pc (A.set x.toNat (.sl o2 0 n2 g2)), g := 0, cap := some 16, z := 1, row := false, ids := true, tg := 0 }, some { p := .pc [.int .i64 m], g := 0, cap := some 1, z := 1, row := false, ids := true, tg := 0 }] ++ R')
          · (refine ⟨0, ?_⟩; simp -implicitDefEqProofs [-getElem?_pos, List.getElem?_cons_zero, List.getElem?_cons_succ, exec, runOps, dstOk, wantedV, AM.step, evalT, evalO, evalArgs, evalParts, getF, putF, afterRegion, assignV, boxOf, newBox, hasIdsP, keepF, ofVal, ofCell, plen, pesz, callV, builtinV, lenV, binV, unV, arith, shiftI, loadV, storeV, putV, indexAddrV, live, upd, pget, pset, psetA, pagg, retag, retagP, byteAV, freezeP, freezeV, joinTags, joinTag, tags, ids, scalar, cellsLen, eqV, convV, faV, fvV, shiftBy, shiftRo, hS, hx0, hx16, happ, bsI, hSl])
          · (refine ⟨0, ?_⟩; simp -implicitDefEqProofs [-getElem?_pos, List.getElem?_cons_zero, List.getElem?_cons_succ, exec, runOps, dstOk, wantedV, AM.step, evalT, evalO, evalArgs, evalParts, getF, putF, afterRegion, assignV, boxOf, newBox, hasIdsP, keepF, ofVal, ofCell, plen, pesz, callV, builtinV, lenV, binV, unV, arith, shiftI, loadV, storeV, putV, indexAddrV, live, upd, pget, pset, psetA, pagg, retag, retagP, byteAV, freezeP, freezeV, joinTags, joinTag, tags, ids, scalar, cellsLen, eqV, convV, faV, fvV, shiftBy, shiftRo, minmax, hfr])
        · simp
      · (refine ⟨0, ?_⟩; simp -implicitDefEqProofs [-getElem?_pos, List.getElem?_cons_zero, List.getElem?_cons_succ, exec, runOps, dstOk, wantedV, AM.step, evalT, evalO, evalArgs, evalParts, getF, putF, afterRegion, assignV, boxOf, newBox, hasIdsP, keepF, ofVal, ofCell, plen, pesz, callV, builtinV, lenV, binV, unV, arith, shiftI, loadV, storeV, putV, indexAddrV, live, upd, pget, pset, psetA, pagg, retag, retagP, byteAV, freezeP, freezeV, joinTags, joinTag, tags, ids, scalar, cellsLen, eqV, convV, faV, fvV, shiftBy, shiftRo, e, hfr])
  · rintro o ⟨ks, hk, rfl⟩
    refine .inl ⟨_, _, rfl, _, ?_, ks, hk, rfl⟩
    have hsc : scalars [.ptr 5 0 0 0, .ptr 1 0 0 0, .ptr 0 0 0 0, .ptr 3 0 0 0, .ptr 2 0 0 0, .ptr 4 0 0 0] = true := rfl
    refine ⟨0, ?_⟩
    simp -implicitDefEqProofs [-getElem?_pos, List.getElem?_cons_zero, List.getElem?_cons_succ, exec, runOps, dstOk, wantedV, AM.step, evalT, evalO, evalArgs, evalParts, getF, putF, afterRegion, assignV, boxOf, newBox, hasIdsP, keepF, ofVal, ofCell, plen, pesz, callV, builtinV, lenV, binV, unV, arith, shiftI, loadV, storeV, putV, indexAddrV, live, upd, pget, pset, psetA, pagg, retag, retagP, byteAV, freezeP, freezeV, joinTags, joinTag, tags, ids, scalar, cellsLen, eqV, convV, faV, fvV, shiftBy, shiftRo, rlFr, hsc]

end Go.Proofs.Ytikleidhmekgnaa
