/- Walks: Write. -/
import Derived.Test.YtikleidhmekgnaaW5
namespace Go.Proofs.Ytikleidhmekgnaa
open Go.AM
set_option linter.unusedSimpArgs false
set_option linter.unusedVariables false

/-- symbols written, on from k bits: the bytes, the bits, and whether all may be -/
def writeL (l codes : List Int) : List Int → Nat → List UInt8 → List UInt8 × Nat × Bool
  | [], k, b => (b, k, true)
  | s :: r, k, b => if s < 0 ∨ (codes.length : Int) ≤ s ∨ codes.getD s.toNat 0 < 0 then (b, k, false)
    else writeL l codes r (k + (l.getD s.toNat 0).toNat) (putC (codes.getD s.toNat 0) (l.getD s.toNat 0).toNat k b)

def nilB : Option AM.Obj := some { p := .pb [], g := 0, cap := .none, z := 0, row := true, ids := false, tg := 0 }

/-- the frame of Write's loops -/
def wrFr (c c2 : Nat) (l sy : List Int) (b : List UInt8) (k i : Nat) : AM.Frame :=
  [(0, .ro c (.pi .i64 l) 1), (4, .sl 0 0 b.length b.length), (5, .int .i64 (k : Nat)), (7, .sl 1 0 l.length 0), (19, .ro c2 (.pi .i64 sy) 2), (20, .int .i64 sy.length), (21, .int .i64 (i : Nat))]
def wiFr (c c2 : Nat) (l sy : List Int) (b : List UInt8) (k i : Nat) (s : Int) (j : Int) : AM.Frame :=
  [(0, .ro c (.pi .i64 l) 1), (4, .sl 0 0 b.length b.length), (5, .int .i64 (k : Nat)), (7, .sl 1 0 l.length 0), (9, .int .i64 s), (10, .int .i64 j), (19, .ro c2 (.pi .i64 sy) 2), (20, .int .i64 sy.length), (21, .int .i64 (i : Nat))]

def writeO (c c2 : Nat) (l codes sy todo : List Int) (k : Nat) (b : List UInt8) : AM.Out :=
  if (writeL l codes todo k b).2.2 = true then ⟨.exit 0, wrFr c c2 l sy (writeL l codes todo k b).1 (writeL l codes todo k b).2.1 sy.length ++ [(22, .bool false)], [obB (writeL l codes todo k b).1, rowI l.length codes]⟩
  else ⟨.ret, [(4, .sl 2 0 0 0), (5, .int .i64 0), (6, .int .i64 2)], [obB (writeL l codes todo k b).1, rowI l.length codes, nilB]⟩

theorem writeO_ne (c c2 : Nat) (l codes sy todo : List Int) (k : Nat) (b : List UInt8) : (writeO c c2 l codes sy todo k b).ex ≠ .normal := by
  unfold writeO; split <;> simp

theorem codesL_pos : ∀ (next l : List Int) (i : Nat) (a : Int), (codesL next l)[i]? = some a → 0 ≤ a → ∃ x, l[i]? = some x ∧ 0 < x
  | next, [], i, a, h, _ => by simp [codesL] at h
  | next, x :: r, i, a, h, ha => by
    simp only [codesL] at h
    split at h
    · rename_i hx
      cases i with
      | zero => exact ⟨x, rfl, hx⟩
      | succ i =>
        obtain ⟨y, h1, h2⟩ := codesL_pos _ r i a (by simpa using h) ha
        exact ⟨y, by simpa using h1, h2⟩
    · cases i with
      | zero => simp at h; omega
      | succ i =>
        obtain ⟨y, h1, h2⟩ := codesL_pos _ r i a (by simpa using h) ha
        exact ⟨y, by simpa using h1, h2⟩

theorem bs0 (H : AM.Heap) : buildSliceV X H 28 1 [(0, .int .u8 0)] = some (.ro 1 (.pb [0]) 0, H) := by kernel_rfl

theorem app_obB (b : List UInt8) (o2 : Option AM.Obj) (h : b.length ≤ 100000) : appendV X [obB b, o2] 28 (.sl 0 0 b.length b.length) (.ro 1 (.pb [0]) 0) = some (.sl 0 0 (b ++ [0]).length (b ++ [0]).length, [obB (b ++ [0]), o2]) := by
  have hroom : roomOk X 5 (b.length + 1) = true := by
    simp [roomOk]
    omega
  simp only [appendV, und28, size5, zok5]
  simp [srcV, payB, plen, live, obB, psub, papp, pesz, ptag, joinTag, upd, hroom]
  cases b with
  | nil => simp
  | cons y r => simp

set_option maxRecDepth 100000 in
theorem write_code (c c2 : Nat) (l sy : List Int) (he : (checkR l).2 = 0) (hsy : sy.length ≤ 400) : ∃ code, Try.f11.body = some code ∧
    Run X T3 11 0 code [(0, .ro c (.pi .i64 l) 1), (1, .ro c2 (.pi .i64 sy) 2)] []
      (if (writeL l (codesR l) sy 0 []).2.2 = true then ⟨.ret, [(4, .sl 0 0 (writeL l (codesR l) sy 0 []).1.length (writeL l (codesR l) sy 0 []).1.length), (5, .int .i64 (writeL l (codesR l) sy 0 []).2.1), (6, .int .i64 0)], [obB (writeL l (codesR l) sy 0 []).1, rowI l.length (codesR l)]⟩
       else ⟨.ret, [(4, .sl 2 0 0 0), (5, .int .i64 0), (6, .int .i64 2)], [obB (writeL l (codesR l) sy 0 []).1, rowI l.length (codesR l), nilB]⟩) := by
  have hce : (countsR l).2 = 0 := by
    unfold checkR at he
    split at he
    · assumption
    · rename_i h; exact absurd he h
  obtain ⟨h320, hall⟩ := countsR_ok hce
  have h63 : l.length < 9223372036854775808 := by omega
  have hT := fun H => T3_codes (H := H) (a := .ro c (.pi .i64 l) 1) rfl h63 he
  have hcl : (codesR l).length = l.length := codesL_len _ _
  have hpos := fun i a => codesL_pos (firstsR (countsR l).1) l i a
  change ∀ i a, (codesR l)[i]? = some a → 0 ≤ a → ∃ x, l[i]? = some x ∧ 0 < x at hpos
  generalize codesR l = codes at hT hcl hpos ⊢
  refine ⟨_, rfl, ?_⟩
  apply Run.seq
  · (refine ⟨0, ?_⟩; conv => lhs; simp -implicitDefEqProofs [-getElem?_pos, List.getElem?_cons_zero, List.getElem?_cons_succ, exec, runOps, dstOk, wantedV, AM.step, evalT, evalO, evalArgs, evalParts, getF, putF, afterRegion, assignV, boxOf, newBox, hasIdsP, keepF, ofVal, ofCell, plen, pesz, callV, builtinV, lenV, binV, unV, arith, shiftI, loadV, storeV, putV, indexAddrV, live, upd, pget, pset, psetA, pagg, retag, retagP, byteAV, freezeP, freezeV, joinTags, joinTag, tags, ids, scalar, cellsLen, eqV, convV, faV, fvV, shiftBy, shiftRo, rowOf, emptyRow])
  apply Run.seq
  · (refine ⟨0, ?_⟩; conv => lhs; simp -implicitDefEqProofs [-getElem?_pos, List.getElem?_cons_zero, List.getElem?_cons_succ, exec, runOps, dstOk, wantedV, AM.step, evalT, evalO, evalArgs, evalParts, getF, putF, afterRegion, assignV, boxOf, newBox, hasIdsP, keepF, ofVal, ofCell, plen, pesz, callV, builtinV, lenV, binV, unV, arith, shiftI, loadV, storeV, putV, indexAddrV, live, upd, pget, pset, psetA, pagg, retag, retagP, byteAV, freezeP, freezeV, joinTags, joinTag, tags, ids, scalar, cellsLen, eqV, convV, faV, fvV, shiftBy, shiftRo, hT])
  apply Run.seq
  · (refine ⟨0, ?_⟩; conv => lhs; simp -implicitDefEqProofs [-getElem?_pos, List.getElem?_cons_zero, List.getElem?_cons_succ, exec, runOps, dstOk, wantedV, AM.step, evalT, evalO, evalArgs, evalParts, getF, putF, afterRegion, assignV, boxOf, newBox, hasIdsP, keepF, ofVal, ofCell, plen, pesz, callV, builtinV, lenV, binV, unV, arith, shiftI, loadV, storeV, putV, indexAddrV, live, upd, pget, pset, psetA, pagg, retag, retagP, byteAV, freezeP, freezeV, joinTags, joinTag, tags, ids, scalar, cellsLen, eqV, convV, faV, fvV, shiftBy, shiftRo])
  apply Run.seq' (o := blockOut 0 (writeO c c2 l codes sy sy 0 []))
  · apply Run.seq (fr' := wrFr c c2 l sy [] 0 0) (H' := [obB [], rowI l.length codes])
    · (refine ⟨0, ?_⟩; simp -implicitDefEqProofs [-getElem?_pos, List.getElem?_cons_zero, List.getElem?_cons_succ, exec, runOps, dstOk, wantedV, AM.step, evalT, evalO, evalArgs, evalParts, getF, putF, afterRegion, assignV, boxOf, newBox, hasIdsP, keepF, ofVal, ofCell, plen, pesz, callV, builtinV, lenV, binV, unV, arith, shiftI, loadV, storeV, putV, indexAddrV, live, upd, pget, pset, psetA, pagg, retag, retagP, byteAV, freezeP, freezeV, joinTags, joinTag, tags, ids, scalar, cellsLen, eqV, convV, faV, fvV, shiftBy, shiftRo, wrFr, obB])
    · apply Run.block'
      refine Run.loop_rule (σ := Nat × List UInt8 × List Int × List Int) (fun s => s.2.1.length = byB s.1 ∧ s.2.2.1 ++ s.2.2.2 = sy ∧ s.1 ≤ 15 * s.2.2.1.length) (fun s => wrFr c c2 l sy s.2.1 s.1 s.2.2.1.length)
        (fun s => [obB s.2.1, rowI l.length codes]) (fun s => writeO c c2 l codes sy s.2.2.2 s.1 s.2.1) (fun s => s.2.2.2.length) ?_ (0, [], [], sy) ⟨by simp [byB], rfl, Nat.le_refl _⟩
      rintro ⟨k, b, done, todo⟩ ⟨hb, hd, hk⟩
      simp only at hb hd hk ⊢
      cases todo with
      | nil =>
        right
        have hlen : done.length = sy.length := by rw [← hd]; simp
        refine ⟨?_, writeO_ne c c2 l codes sy _ k b⟩
        simp only [writeO, writeL, if_true]
        apply Run.seq
        · (refine ⟨0, ?_⟩; conv => lhs; simp -implicitDefEqProofs [-getElem?_pos, List.getElem?_cons_zero, List.getElem?_cons_succ, exec, runOps, dstOk, wantedV, AM.step, evalT, evalO, evalArgs, evalParts, getF, putF, afterRegion, assignV, boxOf, newBox, hasIdsP, keepF, ofVal, ofCell, plen, pesz, callV, builtinV, lenV, binV, unV, arith, shiftI, loadV, storeV, putV, indexAddrV, live, upd, pget, pset, psetA, pagg, retag, retagP, byteAV, freezeP, freezeV, joinTags, joinTag, tags, ids, scalar, cellsLen, eqV, convV, faV, fvV, shiftBy, shiftRo, hlen, wrFr])
        · apply Run.seq_out
          · refine Run.cond (d := false) rfl ⟨0, ?_⟩
            simp -implicitDefEqProofs [-getElem?_pos, List.getElem?_cons_zero, List.getElem?_cons_succ, exec, runOps, dstOk, wantedV, AM.step, evalT, evalO, evalArgs, evalParts, getF, putF, afterRegion, assignV, boxOf, newBox, hasIdsP, keepF, ofVal, ofCell, plen, pesz, callV, builtinV, lenV, binV, unV, arith, shiftI, loadV, storeV, putV, indexAddrV, live, upd, pget, pset, psetA, pagg, retag, retagP, byteAV, freezeP, freezeV, joinTags, joinTag, tags, ids, scalar, cellsLen, eqV, convV, faV, fvV, shiftBy, shiftRo, wrFr, hlen]
          · simp
      | cons s todo =>
        have hlt : done.length < sy.length := by rw [← hd]; simp
        have hget : sy[done.length]? = some s := by rw [← hd]; simp
        have hltI : (done.length : Int) < (sy.length : Int) := by omega
        by_cases hbad : s < 0 ∨ (codes.length : Int) ≤ s ∨ codes.getD s.toNat 0 < 0
        · right
          refine ⟨?_, writeO_ne c c2 l codes sy _ k b⟩
          simp only [writeO, writeL, hbad, if_true]
          apply Run.seq
          · (refine ⟨0, ?_⟩; conv => lhs; simp -implicitDefEqProofs [-getElem?_pos, List.getElem?_cons_zero, List.getElem?_cons_succ, exec, runOps, dstOk, wantedV, AM.step, evalT, evalO, evalArgs, evalParts, getF, putF, afterRegion, assignV, boxOf, newBox, hasIdsP, keepF, ofVal, ofCell, plen, pesz, callV, builtinV, lenV, binV, unV, arith, shiftI, loadV, storeV, putV, indexAddrV, live, upd, pget, pset, psetA, pagg, retag, retagP, byteAV, freezeP, freezeV, joinTags, joinTag, tags, ids, scalar, cellsLen, eqV, convV, faV, fvV, shiftBy, shiftRo, hltI, wrFr])
          apply Run.seq
          · exact Run.cond (d := true) rfl ⟨0, rfl⟩
          apply Run.seq_out
          · apply Run.block
            · by_cases h1 : s < 0
              · (refine ⟨0, ?_⟩; simp -implicitDefEqProofs [-getElem?_pos, List.getElem?_cons_zero, List.getElem?_cons_succ, exec, runOps, dstOk, wantedV, AM.step, evalT, evalO, evalArgs, evalParts, getF, putF, afterRegion, assignV, boxOf, newBox, hasIdsP, keepF, ofVal, ofCell, plen, pesz, callV, builtinV, lenV, binV, unV, arith, shiftI, loadV, storeV, putV, indexAddrV, live, upd, pget, pset, psetA, pagg, retag, retagP, byteAV, freezeP, freezeV, joinTags, joinTag, tags, ids, scalar, cellsLen, eqV, convV, faV, fvV, shiftBy, shiftRo, hget, hlt, h1, rowOf, emptyRow, nilB, rowI, obB])
              · have h1' : 0 ≤ s := by omega
                by_cases h2 : (l.length : Int) ≤ s
                · (refine ⟨0, ?_⟩; simp -implicitDefEqProofs [-getElem?_pos, List.getElem?_cons_zero, List.getElem?_cons_succ, exec, runOps, dstOk, wantedV, AM.step, evalT, evalO, evalArgs, evalParts, getF, putF, afterRegion, assignV, boxOf, newBox, hasIdsP, keepF, ofVal, ofCell, plen, pesz, callV, builtinV, lenV, binV, unV, arith, shiftI, loadV, storeV, putV, indexAddrV, live, upd, pget, pset, psetA, pagg, retag, retagP, byteAV, freezeP, freezeV, joinTags, joinTag, tags, ids, scalar, cellsLen, eqV, convV, faV, fvV, shiftBy, shiftRo, hget, hlt, h1, h1', h2, rowOf, emptyRow, nilB, rowI, obB])
                · have h2' : s < (l.length : Int) := by omega
                  have h3 : codes.getD s.toNat 0 < 0 := by
                    rcases hbad with h | h | h
                    · exact absurd h h1
                    · rw [hcl] at h; exact absurd h h2
                    · exact h
                  have hsl : s.toNat < codes.length := by omega
                  obtain ⟨a, ha⟩ : ∃ a, codes[s.toNat]? = some a := ⟨codes[s.toNat], List.getElem?_eq_getElem hsl⟩
                  rw [List.getD_eq_getElem?_getD, ha] at h3
                  have h3' : a < 0 := h3
                  (refine ⟨0, ?_⟩; simp -implicitDefEqProofs [-getElem?_pos, List.getElem?_cons_zero, List.getElem?_cons_succ, exec, runOps, dstOk, wantedV, AM.step, evalT, evalO, evalArgs, evalParts, getF, putF, afterRegion, assignV, boxOf, newBox, hasIdsP, keepF, ofVal, ofCell, plen, pesz, callV, builtinV, lenV, binV, unV, arith, shiftI, loadV, storeV, putV, indexAddrV, live, upd, pget, pset, psetA, pagg, retag, retagP, byteAV, freezeP, freezeV, joinTags, joinTag, tags, ids, scalar, cellsLen, eqV, convV, faV, fvV, shiftBy, shiftRo, hget, hlt, h1, h1', h2, h2', rowI, ha, h3', rowOf, emptyRow, nilB, obB])
            · simp
          · simp
        · left
          simp only [not_or, Int.not_lt, Int.not_le] at hbad
          obtain ⟨hb1, hb2, hb3⟩ := hbad
          have hsl : s.toNat < codes.length := by omega
          obtain ⟨a, ha⟩ : ∃ a, codes[s.toNat]? = some a := ⟨codes[s.toNat], List.getElem?_eq_getElem hsl⟩
          have hga : codes.getD s.toNat 0 = a := by rw [List.getD_eq_getElem?_getD, ha]; rfl
          rw [hga] at hb3
          obtain ⟨x, hx, hx0⟩ := hpos _ _ ha hb3
          have hgx : l.getD s.toNat 0 = x := by rw [List.getD_eq_getElem?_getD, hx]; rfl
          have hx15 := (hall x (List.mem_of_getElem? hx)).2
          have h2' : s < (l.length : Int) := by omega
          have hn2 : ¬ (l.length : Int) ≤ s := by omega
          have hn1 : ¬ s < 0 := by omega
          have hn3 : ¬ a < 0 := by omega
          have hdl : done.length < 400 := by omega
          refine ⟨(k + x.toNat, putC a x.toNat k b, done ++ [s], todo), ⟨putC_len a x.toNat k b hb, by simpa using hd, show k + x.toNat ≤ 15 * (done ++ [s]).length by simp; omega⟩, ?_, ?_, by simp⟩
          · have e : IntKind.i64.wrap ((done.length : Int) + 1) = (done.length : Int) + 1 := wrap_i64 (by omega) (by omega)
            have e0 : IntKind.i64.wrap (x - 1) = ((x.toNat : Nat) : Int) - 1 := by rw [wrap_i64 (by omega) (by omega)]; omega
            apply Run.seq
            · (refine ⟨0, ?_⟩; conv => lhs; simp -implicitDefEqProofs [-getElem?_pos, List.getElem?_cons_zero, List.getElem?_cons_succ, exec, runOps, dstOk, wantedV, AM.step, evalT, evalO, evalArgs, evalParts, getF, putF, afterRegion, assignV, boxOf, newBox, hasIdsP, keepF, ofVal, ofCell, plen, pesz, callV, builtinV, lenV, binV, unV, arith, shiftI, loadV, storeV, putV, indexAddrV, live, upd, pget, pset, psetA, pagg, retag, retagP, byteAV, freezeP, freezeV, joinTags, joinTag, tags, ids, scalar, cellsLen, eqV, convV, faV, fvV, shiftBy, shiftRo, hltI, wrFr])
            apply Run.seq
            · exact Run.cond (d := true) rfl ⟨0, rfl⟩
            apply Run.seq (fr' := wiFr c c2 l sy (putC a x.toNat k b) (k + x.toNat) done.length s (-1) ++ [(46, .bool false)]) (H' := [obB (putC a x.toNat k b), rowI l.length codes])
            · apply Run.block
              · apply Run.seq
                · (refine ⟨0, ?_⟩; conv => lhs; simp -implicitDefEqProofs [-getElem?_pos, List.getElem?_cons_zero, List.getElem?_cons_succ, exec, runOps, dstOk, wantedV, AM.step, evalT, evalO, evalArgs, evalParts, getF, putF, afterRegion, assignV, boxOf, newBox, hasIdsP, keepF, ofVal, ofCell, plen, pesz, callV, builtinV, lenV, binV, unV, arith, shiftI, loadV, storeV, putV, indexAddrV, live, upd, pget, pset, psetA, pagg, retag, retagP, byteAV, freezeP, freezeV, joinTags, joinTag, tags, ids, scalar, cellsLen, eqV, convV, faV, fvV, shiftBy, shiftRo, hget, hlt])
                apply Run.seq
                · (refine ⟨0, ?_⟩; conv => lhs; simp -implicitDefEqProofs [-getElem?_pos, List.getElem?_cons_zero, List.getElem?_cons_succ, exec, runOps, dstOk, wantedV, AM.step, evalT, evalO, evalArgs, evalParts, getF, putF, afterRegion, assignV, boxOf, newBox, hasIdsP, keepF, ofVal, ofCell, plen, pesz, callV, builtinV, lenV, binV, unV, arith, shiftI, loadV, storeV, putV, indexAddrV, live, upd, pget, pset, psetA, pagg, retag, retagP, byteAV, freezeP, freezeV, joinTags, joinTag, tags, ids, scalar, cellsLen, eqV, convV, faV, fvV, shiftBy, shiftRo, hget, hlt, hn1, hb1, hn2, h2', rowI, ha, hn3])
                apply Run.seq (fr' := wiFr c c2 l sy b k done.length s ((x.toNat : Nat) - 1)) (H' := [obB b, rowI l.length codes])
                · (refine ⟨0, ?_⟩; simp -implicitDefEqProofs [-getElem?_pos, List.getElem?_cons_zero, List.getElem?_cons_succ, exec, runOps, dstOk, wantedV, AM.step, evalT, evalO, evalArgs, evalParts, getF, putF, afterRegion, assignV, boxOf, newBox, hasIdsP, keepF, ofVal, ofCell, plen, pesz, callV, builtinV, lenV, binV, unV, arith, shiftI, loadV, storeV, putV, indexAddrV, live, upd, pget, pset, psetA, pagg, retag, retagP, byteAV, freezeP, freezeV, joinTags, joinTag, tags, ids, scalar, cellsLen, eqV, convV, faV, fvV, shiftBy, shiftRo, hx, hb1, h2', e0, wiFr, rowI])
                apply Run.block_exit
                have hnx : x.toNat ≤ 15 := by omega
                refine Run.loop_rule (σ := Nat × Nat × List UInt8) (fun t => t.2.2.length = byB t.2.1 ∧ t.2.1 + t.1 = k + x.toNat ∧ t.1 ≤ 15) (fun t => wiFr c c2 l sy t.2.2 t.2.1 done.length s ((t.1 : Nat) - 1)) (fun t => [obB t.2.2, rowI l.length codes])
                  (fun t => ⟨.exit 2, wiFr c c2 l sy (putC a t.1 t.2.1 t.2.2) (t.2.1 + t.1) done.length s (-1) ++ [(46, .bool false)], [obB (putC a t.1 t.2.1 t.2.2), rowI l.length codes]⟩) (fun t => t.1) ?_ (x.toNat, k, b) ⟨hb, rfl, hnx⟩
                rintro ⟨j, k', b'⟩ ⟨hb', hj, hj15⟩
                simp only at hb' hj hj15 ⊢
                cases j with
                | zero =>
                  right
                  refine ⟨?_, by simp⟩
                  apply Run.seq_out
                  · (refine ⟨0, ?_⟩; simp -implicitDefEqProofs [-getElem?_pos, List.getElem?_cons_zero, List.getElem?_cons_succ, exec, runOps, dstOk, wantedV, AM.step, evalT, evalO, evalArgs, evalParts, getF, putF, afterRegion, assignV, boxOf, newBox, hasIdsP, keepF, ofVal, ofCell, plen, pesz, callV, builtinV, lenV, binV, unV, arith, shiftI, loadV, storeV, putV, indexAddrV, live, upd, pget, pset, psetA, pagg, retag, retagP, byteAV, freezeP, freezeV, joinTags, joinTag, tags, ids, scalar, cellsLen, eqV, convV, faV, fvV, shiftBy, shiftRo, wiFr, putC])
                  · simp
                | succ j =>
                  left
                  have hk' : k' ≤ 6100 := by omega
                  refine ⟨(j, k' + 1, putB b' k' (bitV a j)), ⟨putB_len hb', show k' + 1 + j = k + x.toNat by omega, show j ≤ 15 by omega⟩, ?_, ?_, by simp⟩
                  · have hjI : (((j + 1 : Nat)) : Int) - 1 = (j : Int) := by omega
                    have hm : ((k' : Int).tmod 8) = ((k' % 8 : Nat) : Int) := by
                      rw [Int.tmod_eq_emod_of_nonneg (by omega)]; omega
                    have hdv : IntKind.i64.wrap ((k' : Int).tdiv 8) = ((k' / 8 : Nat) : Int) := by
                      rw [Int.tdiv_eq_ediv_of_nonneg (by omega), wrap_i64 (by omega) (by omega)]; omega
                    obtain ⟨q, hq⟩ : ∃ q, k' / 8 = q := ⟨_, rfl⟩
                    obtain ⟨r, hr⟩ : ∃ r, k' % 8 = r := ⟨_, rfl⟩
                    have hdq : IntKind.i64.wrap ((k' : Int).tdiv 8) = (q : Int) := by rw [hdv, hq]
                    have hdq2 : IntKind.i64.wrap ((k' : Int) / 8) = (q : Int) := by rw [wrap_i64 (by omega) (by omega)]; omega
                    have hmr : (k' : Int).tmod 8 = (r : Int) := by rw [hm, hr]
                    have hmr2 : (k' : Int) % 8 = (r : Int) := by omega
                    have hr8 : min r 8 = r := by omega
                    have hr0 : ¬ ((r : Int) < 0) := by omega
                    have hj0 : ¬ ((j : Int) < 0) := by omega
                    have ew : IntKind.i64.wrap ((k' : Int) + 1) = (k' : Int) + 1 := wrap_i64 (by omega) (by omega)
                    have ej : IntKind.i64.wrap ((j : Int) - 1) = (j : Int) - 1 := wrap_i64 (by omega) (by omega)
                    have hu1 : ∀ n, 0 ≤ IntKind.u8.wrap n := fun n => (u8_range n).1
                    have hu2 : ∀ n, IntKind.u8.wrap n < 256 := fun n => (u8_range n).2
                    have hj64 : min j 64 = j := by omega
                    have hk8 : min (k' % 8) 8 = k' % 8 := by omega
                    rw [hjI]
                    apply Run.seq
                    · (refine ⟨0, ?_⟩; conv => lhs; simp -implicitDefEqProofs [-getElem?_pos, List.getElem?_cons_zero, List.getElem?_cons_succ, exec, runOps, dstOk, wantedV, AM.step, evalT, evalO, evalArgs, evalParts, getF, putF, afterRegion, assignV, boxOf, newBox, hasIdsP, keepF, ofVal, ofCell, plen, pesz, callV, builtinV, lenV, binV, unV, arith, shiftI, loadV, storeV, putV, indexAddrV, live, upd, pget, pset, psetA, pagg, retag, retagP, byteAV, freezeP, freezeV, joinTags, joinTag, tags, ids, scalar, cellsLen, eqV, convV, faV, fvV, shiftBy, shiftRo, wiFr])
                    by_cases h8 : k' % 8 = 0
                    · have h8I : ((k' % 8 : Nat) : Int) = 0 := by omega
                      have hbl : b'.length ≤ 100000 := by rw [hb']; unfold byB; omega
                      have hap := app_obB b' (rowI l.length codes) hbl
                      have hlen : (b' ++ [0]).length = byB (k' + 1) := by simp [hb', byB]; omega
                      have hput : putB b' k' (bitV a j) = (b' ++ [0]).set (k' / 8) (orB ((b' ++ [0]).getD (k' / 8) 0) (bitV a j) k') := by rw [putB, if_pos h8]
                      rw [hput]
                      generalize b' ++ [0] = B at hap hlen ⊢
                      have hkB : k' / 8 < B.length := by rw [hlen]; unfold byB; omega
                      obtain ⟨w, hw⟩ : ∃ w, B[k' / 8]? = some w := ⟨B[k' / 8], List.getElem?_eq_getElem hkB⟩
                      have hkI : (q : Int) < (B.length : Int) := by omega
                      rw [hq] at hw hkB
                      apply Run.seq (fr' := wiFr c c2 l sy (B.set (k' / 8) (orB (B.getD (k' / 8) 0) (bitV a j) k')) (k' + 1) done.length s j) (H' := [obB (B.set (k' / 8) (orB (B.getD (k' / 8) 0) (bitV a j) k')), rowI l.length codes])
                      · apply Run.block
                        · apply Run.seq (fr' := wiFr c c2 l sy B k' done.length s j) (H' := [obB B, rowI l.length codes])
                          · (refine ⟨0, ?_⟩; simp -implicitDefEqProofs [-getElem?_pos, List.getElem?_cons_zero, List.getElem?_cons_succ, exec, runOps, dstOk, wantedV, AM.step, evalT, evalO, evalArgs, evalParts, getF, putF, afterRegion, assignV, boxOf, newBox, hasIdsP, keepF, ofVal, ofCell, plen, pesz, callV, builtinV, lenV, binV, unV, arith, shiftI, loadV, storeV, putV, indexAddrV, live, upd, pget, pset, psetA, pagg, retag, retagP, byteAV, freezeP, freezeV, joinTags, joinTag, tags, ids, scalar, cellsLen, eqV, convV, faV, fvV, shiftBy, shiftRo, hm, h8I, hap, bs0, wiFr])
                          · apply Run.seq (fr' := wiFr c c2 l sy (B.set (k' / 8) (orB (B.getD (k' / 8) 0) (bitV a j) k')) k' done.length s j) (H' := [obB (B.set (k' / 8) (orB (B.getD (k' / 8) 0) (bitV a j) k')), rowI l.length codes])
                            · (refine ⟨0, ?_⟩; simp -implicitDefEqProofs [-getElem?_pos, List.getElem?_cons_zero, List.getElem?_cons_succ, exec, runOps, dstOk, wantedV, AM.step, evalT, evalO, evalArgs, evalParts, getF, putF, afterRegion, assignV, boxOf, newBox, hasIdsP, keepF, ofVal, ofCell, plen, pesz, callV, builtinV, lenV, binV, unV, arith, shiftI, loadV, storeV, putV, indexAddrV, live, upd, pget, pset, psetA, pagg, retag, retagP, byteAV, freezeP, freezeV, joinTags, joinTag, tags, ids, scalar, cellsLen, eqV, convV, faV, fvV, shiftBy, shiftRo, hdq, hdq2, hkI, hkB, hw, hb1, h2', ha, hj64, hj0, hr0, hr8, hmr, hmr2, hq, hr, hu1, hu2, IntKind.bits, orB, bitV, List.getD_eq_getElem?_getD, wiFr, obB, rowI])
                            · (refine ⟨0, ?_⟩; simp -implicitDefEqProofs [-getElem?_pos, List.getElem?_cons_zero, List.getElem?_cons_succ, exec, runOps, dstOk, wantedV, AM.step, evalT, evalO, evalArgs, evalParts, getF, putF, afterRegion, assignV, boxOf, newBox, hasIdsP, keepF, ofVal, ofCell, plen, pesz, callV, builtinV, lenV, binV, unV, arith, shiftI, loadV, storeV, putV, indexAddrV, live, upd, pget, pset, psetA, pagg, retag, retagP, byteAV, freezeP, freezeV, joinTags, joinTag, tags, ids, scalar, cellsLen, eqV, convV, faV, fvV, shiftBy, shiftRo, ew, wiFr])
                        · simp
                      · (refine ⟨0, ?_⟩; simp -implicitDefEqProofs [-getElem?_pos, List.getElem?_cons_zero, List.getElem?_cons_succ, exec, runOps, dstOk, wantedV, AM.step, evalT, evalO, evalArgs, evalParts, getF, putF, afterRegion, assignV, boxOf, newBox, hasIdsP, keepF, ofVal, ofCell, plen, pesz, callV, builtinV, lenV, binV, unV, arith, shiftI, loadV, storeV, putV, indexAddrV, live, upd, pget, pset, psetA, pagg, retag, retagP, byteAV, freezeP, freezeV, joinTags, joinTag, tags, ids, scalar, cellsLen, eqV, convV, faV, fvV, shiftBy, shiftRo, ej, wiFr])
                    · have h8I : ¬ ((k' % 8 : Nat) : Int) = 0 := by omega
                      have h8J : ¬ (k' : Int) % 8 = 0 := by omega
                      have hput : putB b' k' (bitV a j) = b'.set (k' / 8) (orB (b'.getD (k' / 8) 0) (bitV a j) k') := by rw [putB, if_neg h8]
                      rw [hput]
                      have hlen : b'.length = byB (k' + 1) := by rw [hb']; unfold byB; omega
                      generalize b' = B at hlen ⊢
                      have hkB : k' / 8 < B.length := by rw [hlen]; unfold byB; omega
                      obtain ⟨w, hw⟩ : ∃ w, B[k' / 8]? = some w := ⟨B[k' / 8], List.getElem?_eq_getElem hkB⟩
                      have hkI : (q : Int) < (B.length : Int) := by omega
                      rw [hq] at hw hkB
                      apply Run.seq (fr' := wiFr c c2 l sy (B.set (k' / 8) (orB (B.getD (k' / 8) 0) (bitV a j) k')) (k' + 1) done.length s j) (H' := [obB (B.set (k' / 8) (orB (B.getD (k' / 8) 0) (bitV a j) k')), rowI l.length codes])
                      · apply Run.block
                        · apply Run.seq (fr' := wiFr c c2 l sy B k' done.length s j ++ [(51, .bool false)]) (H' := [obB B, rowI l.length codes])
                          · (refine ⟨0, ?_⟩; simp -implicitDefEqProofs [-getElem?_pos, List.getElem?_cons_zero, List.getElem?_cons_succ, exec, runOps, dstOk, wantedV, AM.step, evalT, evalO, evalArgs, evalParts, getF, putF, afterRegion, assignV, boxOf, newBox, hasIdsP, keepF, ofVal, ofCell, plen, pesz, callV, builtinV, lenV, binV, unV, arith, shiftI, loadV, storeV, putV, indexAddrV, live, upd, pget, pset, psetA, pagg, retag, retagP, byteAV, freezeP, freezeV, joinTags, joinTag, tags, ids, scalar, cellsLen, eqV, convV, faV, fvV, shiftBy, shiftRo, hm, h8, h8I, h8J, wiFr])
                          · apply Run.seq (fr' := wiFr c c2 l sy (B.set (k' / 8) (orB (B.getD (k' / 8) 0) (bitV a j) k')) k' done.length s j) (H' := [obB (B.set (k' / 8) (orB (B.getD (k' / 8) 0) (bitV a j) k')), rowI l.length codes])
                            · (refine ⟨0, ?_⟩; simp -implicitDefEqProofs [-getElem?_pos, List.getElem?_cons_zero, List.getElem?_cons_succ, exec, runOps, dstOk, wantedV, AM.step, evalT, evalO, evalArgs, evalParts, getF, putF, afterRegion, assignV, boxOf, newBox, hasIdsP, keepF, ofVal, ofCell, plen, pesz, callV, builtinV, lenV, binV, unV, arith, shiftI, loadV, storeV, putV, indexAddrV, live, upd, pget, pset, psetA, pagg, retag, retagP, byteAV, freezeP, freezeV, joinTags, joinTag, tags, ids, scalar, cellsLen, eqV, convV, faV, fvV, shiftBy, shiftRo, hdq, hdq2, hkI, hkB, hw, hb1, h2', ha, hj64, hj0, hr0, hr8, hmr, hmr2, hq, hr, hu1, hu2, IntKind.bits, orB, bitV, List.getD_eq_getElem?_getD, wiFr, obB, rowI])
                            · (refine ⟨0, ?_⟩; simp -implicitDefEqProofs [-getElem?_pos, List.getElem?_cons_zero, List.getElem?_cons_succ, exec, runOps, dstOk, wantedV, AM.step, evalT, evalO, evalArgs, evalParts, getF, putF, afterRegion, assignV, boxOf, newBox, hasIdsP, keepF, ofVal, ofCell, plen, pesz, callV, builtinV, lenV, binV, unV, arith, shiftI, loadV, storeV, putV, indexAddrV, live, upd, pget, pset, psetA, pagg, retag, retagP, byteAV, freezeP, freezeV, joinTags, joinTag, tags, ids, scalar, cellsLen, eqV, convV, faV, fvV, shiftBy, shiftRo, ew, wiFr])
                        · simp
                      · (refine ⟨0, ?_⟩; simp -implicitDefEqProofs [-getElem?_pos, List.getElem?_cons_zero, List.getElem?_cons_succ, exec, runOps, dstOk, wantedV, AM.step, evalT, evalO, evalArgs, evalParts, getF, putF, afterRegion, assignV, boxOf, newBox, hasIdsP, keepF, ofVal, ofCell, plen, pesz, callV, builtinV, lenV, binV, unV, arith, shiftI, loadV, storeV, putV, indexAddrV, live, upd, pget, pset, psetA, pagg, retag, retagP, byteAV, freezeP, freezeV, joinTags, joinTag, tags, ids, scalar, cellsLen, eqV, convV, faV, fvV, shiftBy, shiftRo, ej, wiFr])
                  · simp only [putC]
                    rw [show k' + 1 + j = k' + (j + 1) by omega]
              · simp
            · (refine ⟨0, ?_⟩; simp -implicitDefEqProofs [-getElem?_pos, List.getElem?_cons_zero, List.getElem?_cons_succ, exec, runOps, dstOk, wantedV, AM.step, evalT, evalO, evalArgs, evalParts, getF, putF, afterRegion, assignV, boxOf, newBox, hasIdsP, keepF, ofVal, ofCell, plen, pesz, callV, builtinV, lenV, binV, unV, arith, shiftI, loadV, storeV, putV, indexAddrV, live, upd, pget, pset, psetA, pagg, retag, retagP, byteAV, freezeP, freezeV, joinTags, joinTag, tags, ids, scalar, cellsLen, eqV, convV, faV, fvV, shiftBy, shiftRo, e, wiFr, wrFr])
          · have hcc : ¬ (s < 0 ∨ (codes.length : Int) ≤ s ∨ a < 0) := by omega
            simp only [writeO, writeL, hga, hgx, hcc, if_false]
  · intro fr' H' h
    unfold writeO at h
    split at h
    · rename_i hw
      simp only [blockOut, if_true, Out.mk.injEq, true_and] at h
      obtain ⟨rfl, rfl⟩ := h
      rw [if_pos hw]
      apply Run.seq
      · (refine ⟨0, ?_⟩; conv => lhs; simp -implicitDefEqProofs [-getElem?_pos, List.getElem?_cons_zero, List.getElem?_cons_succ, exec, runOps, dstOk, wantedV, AM.step, evalT, evalO, evalArgs, evalParts, getF, putF, afterRegion, assignV, boxOf, newBox, hasIdsP, keepF, ofVal, ofCell, plen, pesz, callV, builtinV, lenV, binV, unV, arith, shiftI, loadV, storeV, putV, indexAddrV, live, upd, pget, pset, psetA, pagg, retag, retagP, byteAV, freezeP, freezeV, joinTags, joinTag, tags, ids, scalar, cellsLen, eqV, convV, faV, fvV, shiftBy, shiftRo, wrFr])
      · exact ⟨0, rfl⟩
    · simp [blockOut] at h
  · intro h
    unfold writeO at h ⊢
    split at h
    · simp [blockOut] at h
    · rename_i hw
      rw [if_neg hw, if_neg hw]
      rfl

end Go.Proofs.Ytikleidhmekgnaa
