/- Walks: the document's Write. -/
import Derived.Test.YtikleidhmekgnaaWA
namespace Go.Proofs.Ytikleidhmekgnaa
open Go.AM
set_option linter.unusedSimpArgs false
set_option linter.unusedVariables false

theorem rsumL_ok : ∀ (l : List Int) (s : Int), (rsumL l s).2 = 0 → ∀ x ∈ l, 0 ≤ x ∧ x ≤ 15
  | [], s, _ => by simp
  | x :: r, s, h => by
    simp only [rsumL] at h
    split at h
    · rename_i hx
      intro y hy
      rcases List.mem_cons.1 hy with rfl | hy
      · exact hx
      · exact rsumL_ok r _ h y hy
    · simp at h

theorem rcheck_ok {l : List Int} (he : (rcheckR l).2 = 0) : ∀ x ∈ l, 0 ≤ x ∧ x ≤ 15 := by
  unfold rcheckR at he
  split at he
  · simp at he
  · split at he
    · rename_i h; exact rsumL_ok l 0 h
    · simp at he

def okL (l : List Int) : List Int → Bool
  | [] => true
  | s :: r => if s < 0 ∨ (l.length : Int) ≤ s ∨ l.getD s.toNat 0 = 0 then false else okL l r

def rwriteL (l codes : List Int) : List Int → Nat → List UInt8 → List UInt8 × Nat
  | [], k, b => (b, k)
  | s :: r, k, b => rwriteL l codes r (k + (l.getD s.toNat 0).toNat) (putC (codes.getD s.toNat 0) (l.getD s.toNat 0).toNat k b)

def r1Fr (c c2 : Nat) (l sy : List Int) (i : Nat) : AM.Frame := [(0, .ro c (.pi .i64 l) 1), (1, .ro c2 (.pi .i64 sy) 2), (7, .sl 1 0 l.length 0), (9, .int .i64 (i : Nat))]
def r2Fr (c c2 : Nat) (l sy : List Int) (b : List UInt8) (k i : Nat) : AM.Frame := [(0, .ro c (.pi .i64 l) 1), (1, .ro c2 (.pi .i64 sy) 2), (7, .sl 1 0 l.length 0), (10, .sl 2 0 b.length b.length), (11, .int .i64 (k : Nat)), (12, .int .i64 (i : Nat))]
def r3Fr (c c2 : Nat) (l sy : List Int) (b : List UInt8) (k i : Nat) (j : Int) : AM.Frame := [(0, .ro c (.pi .i64 l) 1), (1, .ro c2 (.pi .i64 sy) 2), (7, .sl 1 0 l.length 0), (10, .sl 2 0 b.length b.length), (11, .int .i64 (k : Nat)), (12, .int .i64 (i : Nat)), (14, .int .i64 j)]

def r1O (c c2 : Nat) (l codes sy todo : List Int) : AM.Out :=
  if okL l todo = true then ⟨.exit 0, r1Fr c c2 l sy sy.length ++ [(26, .bool false)], [nilB, rowI l.length codes]⟩
  else ⟨.ret, [(4, .sl 2 0 0 0), (5, .int .i64 0), (6, .int .i64 2)], [nilB, rowI l.length codes, nilB]⟩

theorem r1O_ne (c c2 : Nat) (l codes sy todo : List Int) : (r1O c c2 l codes sy todo).ex ≠ .normal := by
  unfold r1O; split <;> simp

set_option maxRecDepth 100000 in
theorem rwrite_code (c c2 : Nat) (l sy : List Int) (he : (rcheckR l).2 = 0) (hsy : sy.length ≤ 400) : ∃ code, Try.f12.body = some code ∧
    Run X T5 12 0 code [(0, .ro c (.pi .i64 l) 1), (1, .ro c2 (.pi .i64 sy) 2)] []
      (if okL l sy = true then ⟨.ret, [(4, .sl 2 0 (rwriteL l (rcodesR l) sy 0 []).1.length (rwriteL l (rcodesR l) sy 0 []).1.length), (5, .int .i64 (rwriteL l (rcodesR l) sy 0 []).2), (6, .int .i64 0)], [nilB, rowI l.length (rcodesR l), obB (rwriteL l (rcodesR l) sy 0 []).1]⟩
       else ⟨.ret, [(4, .sl 2 0 0 0), (5, .int .i64 0), (6, .int .i64 2)], [nilB, rowI l.length (rcodesR l), nilB]⟩) := by
  have h320 := rcheck_320 he
  have hall := rcheck_ok he
  have h63 : l.length < 9223372036854775808 := by omega
  have hT := fun H => T5_codes (H := H) (a := .ro c (.pi .i64 l) 1) rfl h63 he
  have hcl : (rcodesR l).length = l.length := by
    unfold rcodesR
    rw [rNeg_len, rOut_len]
    simp
  generalize rcodesR l = codes at hT hcl ⊢
  refine ⟨_, rfl, ?_⟩
  apply Run.seq
  · (refine ⟨0, ?_⟩; conv => lhs; simp -implicitDefEqProofs [-getElem?_pos, List.getElem?_cons_zero, List.getElem?_cons_succ, exec, runOps, dstOk, wantedV, AM.step, evalT, evalO, evalArgs, evalParts, getF, putF, afterRegion, assignV, boxOf, newBox, hasIdsP, keepF, ofVal, ofCell, plen, pesz, callV, builtinV, lenV, binV, unV, arith, shiftI, loadV, storeV, putV, indexAddrV, live, upd, pget, pset, psetA, pagg, retag, retagP, byteAV, freezeP, freezeV, joinTags, joinTag, tags, ids, scalar, cellsLen, eqV, convV, faV, fvV, shiftBy, shiftRo, rowOf, emptyRow])
  apply Run.seq
  · (refine ⟨0, ?_⟩; conv => lhs; simp -implicitDefEqProofs [-getElem?_pos, List.getElem?_cons_zero, List.getElem?_cons_succ, exec, runOps, dstOk, wantedV, AM.step, evalT, evalO, evalArgs, evalParts, getF, putF, afterRegion, assignV, boxOf, newBox, hasIdsP, keepF, ofVal, ofCell, plen, pesz, callV, builtinV, lenV, binV, unV, arith, shiftI, loadV, storeV, putV, indexAddrV, live, upd, pget, pset, psetA, pagg, retag, retagP, byteAV, freezeP, freezeV, joinTags, joinTag, tags, ids, scalar, cellsLen, eqV, convV, faV, fvV, shiftBy, shiftRo, hT])
  apply Run.seq
  · (refine ⟨0, ?_⟩; conv => lhs; simp -implicitDefEqProofs [-getElem?_pos, List.getElem?_cons_zero, List.getElem?_cons_succ, exec, runOps, dstOk, wantedV, AM.step, evalT, evalO, evalArgs, evalParts, getF, putF, afterRegion, assignV, boxOf, newBox, hasIdsP, keepF, ofVal, ofCell, plen, pesz, callV, builtinV, lenV, binV, unV, arith, shiftI, loadV, storeV, putV, indexAddrV, live, upd, pget, pset, psetA, pagg, retag, retagP, byteAV, freezeP, freezeV, joinTags, joinTag, tags, ids, scalar, cellsLen, eqV, convV, faV, fvV, shiftBy, shiftRo])
  apply Run.seq' (o := blockOut 0 (r1O c c2 l codes sy sy))
  · apply Run.seq (fr' := r1Fr c c2 l sy 0) (H' := [nilB, rowI l.length codes])
    · (refine ⟨0, ?_⟩; simp -implicitDefEqProofs [-getElem?_pos, List.getElem?_cons_zero, List.getElem?_cons_succ, exec, runOps, dstOk, wantedV, AM.step, evalT, evalO, evalArgs, evalParts, getF, putF, afterRegion, assignV, boxOf, newBox, hasIdsP, keepF, ofVal, ofCell, plen, pesz, callV, builtinV, lenV, binV, unV, arith, shiftI, loadV, storeV, putV, indexAddrV, live, upd, pget, pset, psetA, pagg, retag, retagP, byteAV, freezeP, freezeV, joinTags, joinTag, tags, ids, scalar, cellsLen, eqV, convV, faV, fvV, shiftBy, shiftRo, r1Fr, nilB])
    · apply Run.block'
      refine Run.loop_rule (σ := List Int × List Int) (fun t => t.1 ++ t.2 = sy) (fun t => r1Fr c c2 l sy t.1.length) (fun _ => [nilB, rowI l.length codes]) (fun t => r1O c c2 l codes sy t.2) (fun t => t.2.length) ?_ ([], sy) rfl
      rintro ⟨done, todo⟩ hd
      simp only at hd ⊢
      cases todo with
      | nil =>
        right
        have hlen : done.length = sy.length := by rw [← hd]; simp
        refine ⟨?_, r1O_ne c c2 l codes sy _⟩
        simp only [r1O, okL, if_true]
        apply Run.seq_out
        · (refine ⟨0, ?_⟩; simp -implicitDefEqProofs [-getElem?_pos, List.getElem?_cons_zero, List.getElem?_cons_succ, exec, runOps, dstOk, wantedV, AM.step, evalT, evalO, evalArgs, evalParts, getF, putF, afterRegion, assignV, boxOf, newBox, hasIdsP, keepF, ofVal, ofCell, plen, pesz, callV, builtinV, lenV, binV, unV, arith, shiftI, loadV, storeV, putV, indexAddrV, live, upd, pget, pset, psetA, pagg, retag, retagP, byteAV, freezeP, freezeV, joinTags, joinTag, tags, ids, scalar, cellsLen, eqV, convV, faV, fvV, shiftBy, shiftRo, hlen, r1Fr])
        · simp
      | cons s todo =>
        have hlt : done.length < sy.length := by rw [← hd]; simp
        have hget : sy[done.length]? = some s := by rw [← hd]; simp
        have hltI : (done.length : Int) < (sy.length : Int) := by omega
        by_cases hbad : s < 0 ∨ (l.length : Int) ≤ s ∨ l.getD s.toNat 0 = 0
        · right
          refine ⟨?_, r1O_ne c c2 l codes sy _⟩
          simp only [r1O, okL, hbad, if_true]
          apply Run.seq
          · (refine ⟨0, ?_⟩; conv => lhs; simp -implicitDefEqProofs [-getElem?_pos, List.getElem?_cons_zero, List.getElem?_cons_succ, exec, runOps, dstOk, wantedV, AM.step, evalT, evalO, evalArgs, evalParts, getF, putF, afterRegion, assignV, boxOf, newBox, hasIdsP, keepF, ofVal, ofCell, plen, pesz, callV, builtinV, lenV, binV, unV, arith, shiftI, loadV, storeV, putV, indexAddrV, live, upd, pget, pset, psetA, pagg, retag, retagP, byteAV, freezeP, freezeV, joinTags, joinTag, tags, ids, scalar, cellsLen, eqV, convV, faV, fvV, shiftBy, shiftRo, hltI, r1Fr])
          apply Run.seq_out
          · by_cases h1 : s < 0
            · (refine ⟨0, ?_⟩; simp -implicitDefEqProofs [-getElem?_pos, List.getElem?_cons_zero, List.getElem?_cons_succ, exec, runOps, dstOk, wantedV, AM.step, evalT, evalO, evalArgs, evalParts, getF, putF, afterRegion, assignV, boxOf, newBox, hasIdsP, keepF, ofVal, ofCell, plen, pesz, callV, builtinV, lenV, binV, unV, arith, shiftI, loadV, storeV, putV, indexAddrV, live, upd, pget, pset, psetA, pagg, retag, retagP, byteAV, freezeP, freezeV, joinTags, joinTag, tags, ids, scalar, cellsLen, eqV, convV, faV, fvV, shiftBy, shiftRo, hget, hlt, h1, rowOf, emptyRow, nilB, rowI])
            · have h1' : 0 ≤ s := by omega
              by_cases h2 : (l.length : Int) ≤ s
              · (refine ⟨0, ?_⟩; simp -implicitDefEqProofs [-getElem?_pos, List.getElem?_cons_zero, List.getElem?_cons_succ, exec, runOps, dstOk, wantedV, AM.step, evalT, evalO, evalArgs, evalParts, getF, putF, afterRegion, assignV, boxOf, newBox, hasIdsP, keepF, ofVal, ofCell, plen, pesz, callV, builtinV, lenV, binV, unV, arith, shiftI, loadV, storeV, putV, indexAddrV, live, upd, pget, pset, psetA, pagg, retag, retagP, byteAV, freezeP, freezeV, joinTags, joinTag, tags, ids, scalar, cellsLen, eqV, convV, faV, fvV, shiftBy, shiftRo, hget, hlt, h1, h1', h2, rowOf, emptyRow, nilB, rowI])
              · have h2' : s < (l.length : Int) := by omega
                have h3 : l.getD s.toNat 0 = 0 := by
                  rcases hbad with h | h | h
                  · exact absurd h h1
                  · exact absurd h h2
                  · exact h
                have hsl : s.toNat < l.length := by omega
                obtain ⟨x, hx⟩ : ∃ x, l[s.toNat]? = some x := ⟨l[s.toNat], List.getElem?_eq_getElem hsl⟩
                rw [List.getD_eq_getElem?_getD, hx] at h3
                have h3' : x = 0 := h3
                (refine ⟨0, ?_⟩; simp -implicitDefEqProofs [-getElem?_pos, List.getElem?_cons_zero, List.getElem?_cons_succ, exec, runOps, dstOk, wantedV, AM.step, evalT, evalO, evalArgs, evalParts, getF, putF, afterRegion, assignV, boxOf, newBox, hasIdsP, keepF, ofVal, ofCell, plen, pesz, callV, builtinV, lenV, binV, unV, arith, shiftI, loadV, storeV, putV, indexAddrV, live, upd, pget, pset, psetA, pagg, retag, retagP, byteAV, freezeP, freezeV, joinTags, joinTag, tags, ids, scalar, cellsLen, eqV, convV, faV, fvV, shiftBy, shiftRo, hget, hlt, h1, h1', h2, h2', hx, h3', rowOf, emptyRow, nilB, rowI])
          · simp
        · left
          refine ⟨(done ++ [s], todo), by simpa using hd, ?_, by simp only [r1O, okL, hbad, if_false], by simp⟩
          simp only [not_or, Int.not_le, Int.not_lt] at hbad
          obtain ⟨hb1, hb2, hb3⟩ := hbad
          have hsl : s.toNat < l.length := by omega
          obtain ⟨x, hx⟩ : ∃ x, l[s.toNat]? = some x := ⟨l[s.toNat], List.getElem?_eq_getElem hsl⟩
          rw [List.getD_eq_getElem?_getD, hx] at hb3
          have hx0 : ¬ x = 0 := hb3
          have hn1 : ¬ s < 0 := by omega
          have hn2 : ¬ (l.length : Int) ≤ s := by omega
          have e : IntKind.i64.wrap ((done.length : Int) + 1) = (done.length : Int) + 1 := wrap_i64 (by omega) (by omega)
          apply Run.seq
          · (refine ⟨0, ?_⟩; conv => lhs; simp -implicitDefEqProofs [-getElem?_pos, List.getElem?_cons_zero, List.getElem?_cons_succ, exec, runOps, dstOk, wantedV, AM.step, evalT, evalO, evalArgs, evalParts, getF, putF, afterRegion, assignV, boxOf, newBox, hasIdsP, keepF, ofVal, ofCell, plen, pesz, callV, builtinV, lenV, binV, unV, arith, shiftI, loadV, storeV, putV, indexAddrV, live, upd, pget, pset, psetA, pagg, retag, retagP, byteAV, freezeP, freezeV, joinTags, joinTag, tags, ids, scalar, cellsLen, eqV, convV, faV, fvV, shiftBy, shiftRo, hltI, r1Fr])
          apply Run.seq
          · (refine ⟨0, ?_⟩; conv => lhs; simp -implicitDefEqProofs [-getElem?_pos, List.getElem?_cons_zero, List.getElem?_cons_succ, exec, runOps, dstOk, wantedV, AM.step, evalT, evalO, evalArgs, evalParts, getF, putF, afterRegion, assignV, boxOf, newBox, hasIdsP, keepF, ofVal, ofCell, plen, pesz, callV, builtinV, lenV, binV, unV, arith, shiftI, loadV, storeV, putV, indexAddrV, live, upd, pget, pset, psetA, pagg, retag, retagP, byteAV, freezeP, freezeV, joinTags, joinTag, tags, ids, scalar, cellsLen, eqV, convV, faV, fvV, shiftBy, shiftRo, hget, hlt, hn1, hb1, hn2, hb2, hx, hx0, rowI, nilB])
          · (refine ⟨0, ?_⟩; simp -implicitDefEqProofs [-getElem?_pos, List.getElem?_cons_zero, List.getElem?_cons_succ, exec, runOps, dstOk, wantedV, AM.step, evalT, evalO, evalArgs, evalParts, getF, putF, afterRegion, assignV, boxOf, newBox, hasIdsP, keepF, ofVal, ofCell, plen, pesz, callV, builtinV, lenV, binV, unV, arith, shiftI, loadV, storeV, putV, indexAddrV, live, upd, pget, pset, psetA, pagg, retag, retagP, byteAV, freezeP, freezeV, joinTags, joinTag, tags, ids, scalar, cellsLen, eqV, convV, faV, fvV, shiftBy, shiftRo, e, r1Fr, nilB, rowI])
  · intro fr' H' h
    unfold r1O at h
    split at h
    · rename_i hw
      simp only [blockOut, if_true, Out.mk.injEq, true_and] at h
      obtain ⟨rfl, rfl⟩ := h
      rw [if_pos hw]
      apply Run.seq
      · (refine ⟨0, ?_⟩; conv => lhs; simp -implicitDefEqProofs [-getElem?_pos, List.getElem?_cons_zero, List.getElem?_cons_succ, exec, runOps, dstOk, wantedV, AM.step, evalT, evalO, evalArgs, evalParts, getF, putF, afterRegion, assignV, boxOf, newBox, hasIdsP, keepF, ofVal, ofCell, plen, pesz, callV, builtinV, lenV, binV, unV, arith, shiftI, loadV, storeV, putV, indexAddrV, live, upd, pget, pset, psetA, pagg, retag, retagP, byteAV, freezeP, freezeV, joinTags, joinTag, tags, ids, scalar, cellsLen, eqV, convV, faV, fvV, shiftBy, shiftRo, r1Fr, rowOf, emptyRow])
      apply Run.seq
      · (refine ⟨0, ?_⟩; conv => lhs; simp -implicitDefEqProofs [-getElem?_pos, List.getElem?_cons_zero, List.getElem?_cons_succ, exec, runOps, dstOk, wantedV, AM.step, evalT, evalO, evalArgs, evalParts, getF, putF, afterRegion, assignV, boxOf, newBox, hasIdsP, keepF, ofVal, ofCell, plen, pesz, callV, builtinV, lenV, binV, unV, arith, shiftI, loadV, storeV, putV, indexAddrV, live, upd, pget, pset, psetA, pagg, retag, retagP, byteAV, freezeP, freezeV, joinTags, joinTag, tags, ids, scalar, cellsLen, eqV, convV, faV, fvV, shiftBy, shiftRo])
      apply Run.seq (fr' := r2Fr c c2 l sy (rwriteL l codes sy 0 []).1 (rwriteL l codes sy 0 []).2 sy.length ++ [(56, .bool false)]) (H' := [nilB, rowI l.length codes, obB (rwriteL l codes sy 0 []).1])
      · apply Run.seq (fr' := r2Fr c c2 l sy [] 0 0) (H' := [nilB, rowI l.length codes, obB []])
        · (refine ⟨0, ?_⟩; simp -implicitDefEqProofs [-getElem?_pos, List.getElem?_cons_zero, List.getElem?_cons_succ, exec, runOps, dstOk, wantedV, AM.step, evalT, evalO, evalArgs, evalParts, getF, putF, afterRegion, assignV, boxOf, newBox, hasIdsP, keepF, ofVal, ofCell, plen, pesz, callV, builtinV, lenV, binV, unV, arith, shiftI, loadV, storeV, putV, indexAddrV, live, upd, pget, pset, psetA, pagg, retag, retagP, byteAV, freezeP, freezeV, joinTags, joinTag, tags, ids, scalar, cellsLen, eqV, convV, faV, fvV, shiftBy, shiftRo, r2Fr, obB])
        · apply Run.block_exit
          refine Run.loop_rule (σ := Nat × List UInt8 × List Int × List Int) (fun t => t.2.1.length = byB t.1 ∧ t.2.2.1 ++ t.2.2.2 = sy ∧ t.1 ≤ 15 * t.2.2.1.length ∧ okL l t.2.2.2 = true) (fun t => r2Fr c c2 l sy t.2.1 t.1 t.2.2.1.length) (fun t => [nilB, rowI l.length codes, obB t.2.1])
            (fun t => ⟨.exit 2, r2Fr c c2 l sy (rwriteL l codes t.2.2.2 t.1 t.2.1).1 (rwriteL l codes t.2.2.2 t.1 t.2.1).2 sy.length ++ [(56, .bool false)], [nilB, rowI l.length codes, obB (rwriteL l codes t.2.2.2 t.1 t.2.1).1]⟩) (fun t => t.2.2.2.length) ?_ (0, [], [], sy) ⟨by simp [byB], rfl, Nat.le_refl _, hw⟩
          rintro ⟨k, b, done, todo⟩ ⟨hb, hd, hk, hok⟩
          simp only at hb hd hk hok ⊢
          cases todo with
          | nil =>
            right
            have hlen : done.length = sy.length := by rw [← hd]; simp
            refine ⟨?_, by simp⟩
            simp only [rwriteL]
            apply Run.seq_out
            · (refine ⟨0, ?_⟩; simp -implicitDefEqProofs [-getElem?_pos, List.getElem?_cons_zero, List.getElem?_cons_succ, exec, runOps, dstOk, wantedV, AM.step, evalT, evalO, evalArgs, evalParts, getF, putF, afterRegion, assignV, boxOf, newBox, hasIdsP, keepF, ofVal, ofCell, plen, pesz, callV, builtinV, lenV, binV, unV, arith, shiftI, loadV, storeV, putV, indexAddrV, live, upd, pget, pset, psetA, pagg, retag, retagP, byteAV, freezeP, freezeV, joinTags, joinTag, tags, ids, scalar, cellsLen, eqV, convV, faV, fvV, shiftBy, shiftRo, hlen, r2Fr])
            · simp
          | cons s todo =>
            left
            have hlt : done.length < sy.length := by rw [← hd]; simp
            have hget : sy[done.length]? = some s := by rw [← hd]; simp
            have hltI : (done.length : Int) < (sy.length : Int) := by omega
            simp only [okL] at hok
            split at hok
            · cases hok
            rename_i hbad
            simp only [not_or, Int.not_le, Int.not_lt] at hbad
            obtain ⟨hb1, hb2, hb3⟩ := hbad
            have hsl : s.toNat < l.length := by omega
            obtain ⟨x, hx⟩ : ∃ x, l[s.toNat]? = some x := ⟨l[s.toNat], List.getElem?_eq_getElem hsl⟩
            have hgx : l.getD s.toNat 0 = x := by rw [List.getD_eq_getElem?_getD, hx]; rfl
            rw [hgx] at hb3
            have hx0 := (hall x (List.mem_of_getElem? hx)).1
            have hx15 := (hall x (List.mem_of_getElem? hx)).2
            obtain ⟨a, ha⟩ : ∃ a, codes[s.toNat]? = some a := ⟨codes[s.toNat]'(by omega), List.getElem?_eq_getElem (by omega)⟩
            have hga : codes.getD s.toNat 0 = a := by rw [List.getD_eq_getElem?_getD, ha]; rfl
            have hdl : done.length < 400 := by omega
            refine ⟨(k + x.toNat, putC a x.toNat k b, done ++ [s], todo), ⟨putC_len a x.toNat k b hb, by simpa using hd, show k + x.toNat ≤ 15 * (done ++ [s]).length by simp; omega, hok⟩, ?_, by simp only [rwriteL, hga, hgx], by simp⟩
            have e : IntKind.i64.wrap ((done.length : Int) + 1) = (done.length : Int) + 1 := wrap_i64 (by omega) (by omega)
            have e0 : IntKind.i64.wrap (x - 1) = ((x.toNat : Nat) : Int) - 1 := by rw [wrap_i64 (by omega) (by omega)]; omega
            apply Run.seq
            · (refine ⟨0, ?_⟩; conv => lhs; simp -implicitDefEqProofs [-getElem?_pos, List.getElem?_cons_zero, List.getElem?_cons_succ, exec, runOps, dstOk, wantedV, AM.step, evalT, evalO, evalArgs, evalParts, getF, putF, afterRegion, assignV, boxOf, newBox, hasIdsP, keepF, ofVal, ofCell, plen, pesz, callV, builtinV, lenV, binV, unV, arith, shiftI, loadV, storeV, putV, indexAddrV, live, upd, pget, pset, psetA, pagg, retag, retagP, byteAV, freezeP, freezeV, joinTags, joinTag, tags, ids, scalar, cellsLen, eqV, convV, faV, fvV, shiftBy, shiftRo, hltI, r2Fr])
            apply Run.seq (fr' := r3Fr c c2 l sy (putC a x.toNat k b) (k + x.toNat) done.length (-1) ++ [(69, .bool false)]) (H' := [nilB, rowI l.length codes, obB (putC a x.toNat k b)])
            · apply Run.block
              · apply Run.seq
                · (refine ⟨0, ?_⟩; conv => lhs; simp -implicitDefEqProofs [-getElem?_pos, List.getElem?_cons_zero, List.getElem?_cons_succ, exec, runOps, dstOk, wantedV, AM.step, evalT, evalO, evalArgs, evalParts, getF, putF, afterRegion, assignV, boxOf, newBox, hasIdsP, keepF, ofVal, ofCell, plen, pesz, callV, builtinV, lenV, binV, unV, arith, shiftI, loadV, storeV, putV, indexAddrV, live, upd, pget, pset, psetA, pagg, retag, retagP, byteAV, freezeP, freezeV, joinTags, joinTag, tags, ids, scalar, cellsLen, eqV, convV, faV, fvV, shiftBy, shiftRo, hget, hlt, hb1, hb2, hx])
                apply Run.seq (fr' := r3Fr c c2 l sy b k done.length ((x.toNat : Nat) - 1)) (H' := [nilB, rowI l.length codes, obB b])
                · (refine ⟨0, ?_⟩; simp -implicitDefEqProofs [-getElem?_pos, List.getElem?_cons_zero, List.getElem?_cons_succ, exec, runOps, dstOk, wantedV, AM.step, evalT, evalO, evalArgs, evalParts, getF, putF, afterRegion, assignV, boxOf, newBox, hasIdsP, keepF, ofVal, ofCell, plen, pesz, callV, builtinV, lenV, binV, unV, arith, shiftI, loadV, storeV, putV, indexAddrV, live, upd, pget, pset, psetA, pagg, retag, retagP, byteAV, freezeP, freezeV, joinTags, joinTag, tags, ids, scalar, cellsLen, eqV, convV, faV, fvV, shiftBy, shiftRo, e0, r3Fr])
                apply Run.block_exit
                have hnx : x.toNat ≤ 15 := by omega
                refine Run.loop_rule (σ := Nat × Nat × List UInt8) (fun t => t.2.2.length = byB t.2.1 ∧ t.2.1 + t.1 = k + x.toNat ∧ t.1 ≤ 15) (fun t => r3Fr c c2 l sy t.2.2 t.2.1 done.length ((t.1 : Nat) - 1)) (fun t => [nilB, rowI l.length codes, obB t.2.2])
                  (fun t => ⟨.exit 4, r3Fr c c2 l sy (putC a t.1 t.2.1 t.2.2) (t.2.1 + t.1) done.length (-1) ++ [(69, .bool false)], [nilB, rowI l.length codes, obB (putC a t.1 t.2.1 t.2.2)]⟩) (fun t => t.1) ?_ (x.toNat, k, b) ⟨hb, rfl, hnx⟩
                rintro ⟨j, k', b'⟩ ⟨hb', hj, hj15⟩
                simp only at hb' hj hj15 ⊢
                cases j with
                | zero =>
                  right
                  refine ⟨?_, by simp⟩
                  apply Run.seq_out
                  · (refine ⟨0, ?_⟩; simp -implicitDefEqProofs [-getElem?_pos, List.getElem?_cons_zero, List.getElem?_cons_succ, exec, runOps, dstOk, wantedV, AM.step, evalT, evalO, evalArgs, evalParts, getF, putF, afterRegion, assignV, boxOf, newBox, hasIdsP, keepF, ofVal, ofCell, plen, pesz, callV, builtinV, lenV, binV, unV, arith, shiftI, loadV, storeV, putV, indexAddrV, live, upd, pget, pset, psetA, pagg, retag, retagP, byteAV, freezeP, freezeV, joinTags, joinTag, tags, ids, scalar, cellsLen, eqV, convV, faV, fvV, shiftBy, shiftRo, r3Fr, putC])
                  · simp
                | succ j =>
                  left
                  have hk' : k' ≤ 6100 := by omega
                  refine ⟨(j, k' + 1, putB b' k' (bitV a j)), ⟨putB_len hb', show k' + 1 + j = k + x.toNat by omega, show j ≤ 15 by omega⟩, ?_, by simp only [putC]; rw [show k' + 1 + j = k' + (j + 1) by omega], by simp⟩
                  have hjI : (((j + 1 : Nat)) : Int) - 1 = (j : Int) := by omega
                  have ew : IntKind.i64.wrap ((k' : Int) + 1) = (k' : Int) + 1 := wrap_i64 (by omega) (by omega)
                  have ej : IntKind.i64.wrap ((j : Int) - 1) = (j : Int) - 1 := wrap_i64 (by omega) (by omega)
                  have eu : IntKind.u64.wrap (j : Int) = (j : Int) := wrap_u64 (by omega) (by omega)
                  have hj64 : min j 64 = j := by omega
                  have hj0 : ¬ ((j : Int) < 0) := by omega
                  have hput : ∀ v, T5 23 [.sl 2 0 b'.length b'.length, .int .i64 (k' : Nat), .int .i64 v] [nilB, some { p := .pi .i64 codes, g := 0, cap := some l.length, z := 1, row := true, ids := false, tg := 0 }, obB b'] =
                      some (.sl 2 0 (putB b' k' v).length (putB b' k' v).length, [nilB, some { p := .pi .i64 codes, g := 0, cap := some l.length, z := 1, row := true, ids := false, tg := 0 }, obB (putB b' k' v)]) :=
                    fun v => T5_put (H := [nilB, rowI l.length codes, obB b']) (o := 2) (k := k') (b := b') (v := v) rfl hb' (by omega)
                  rw [hjI]
                  apply Run.seq
                  · (refine ⟨0, ?_⟩; conv => lhs; simp -implicitDefEqProofs [-getElem?_pos, List.getElem?_cons_zero, List.getElem?_cons_succ, exec, runOps, dstOk, wantedV, AM.step, evalT, evalO, evalArgs, evalParts, getF, putF, afterRegion, assignV, boxOf, newBox, hasIdsP, keepF, ofVal, ofCell, plen, pesz, callV, builtinV, lenV, binV, unV, arith, shiftI, loadV, storeV, putV, indexAddrV, live, upd, pget, pset, psetA, pagg, retag, retagP, byteAV, freezeP, freezeV, joinTags, joinTag, tags, ids, scalar, cellsLen, eqV, convV, faV, fvV, shiftBy, shiftRo, r3Fr])
                  apply Run.seq (fr' := r3Fr c c2 l sy (putB b' k' (bitV a j)) (k' + 1) done.length j) (H' := [nilB, rowI l.length codes, obB (putB b' k' (bitV a j))])
                  · (refine ⟨0, ?_⟩; simp -implicitDefEqProofs [-getElem?_pos, List.getElem?_cons_zero, List.getElem?_cons_succ, exec, runOps, dstOk, wantedV, AM.step, evalT, evalO, evalArgs, evalParts, getF, putF, afterRegion, assignV, boxOf, newBox, hasIdsP, keepF, ofVal, ofCell, plen, pesz, callV, builtinV, lenV, binV, unV, arith, shiftI, loadV, storeV, putV, indexAddrV, live, upd, pget, pset, psetA, pagg, retag, retagP, byteAV, freezeP, freezeV, joinTags, joinTag, tags, ids, scalar, cellsLen, eqV, convV, faV, fvV, shiftBy, shiftRo, hget, hlt, hb1, hb2, ha, eu, hj0, hj64, hput, ew, r3Fr, rowI, bitV, IntKind.bits])
                  · (refine ⟨0, ?_⟩; simp -implicitDefEqProofs [-getElem?_pos, List.getElem?_cons_zero, List.getElem?_cons_succ, exec, runOps, dstOk, wantedV, AM.step, evalT, evalO, evalArgs, evalParts, getF, putF, afterRegion, assignV, boxOf, newBox, hasIdsP, keepF, ofVal, ofCell, plen, pesz, callV, builtinV, lenV, binV, unV, arith, shiftI, loadV, storeV, putV, indexAddrV, live, upd, pget, pset, psetA, pagg, retag, retagP, byteAV, freezeP, freezeV, joinTags, joinTag, tags, ids, scalar, cellsLen, eqV, convV, faV, fvV, shiftBy, shiftRo, ej, r3Fr])
              · simp
            · (refine ⟨0, ?_⟩; simp -implicitDefEqProofs [-getElem?_pos, List.getElem?_cons_zero, List.getElem?_cons_succ, exec, runOps, dstOk, wantedV, AM.step, evalT, evalO, evalArgs, evalParts, getF, putF, afterRegion, assignV, boxOf, newBox, hasIdsP, keepF, ofVal, ofCell, plen, pesz, callV, builtinV, lenV, binV, unV, arith, shiftI, loadV, storeV, putV, indexAddrV, live, upd, pget, pset, psetA, pagg, retag, retagP, byteAV, freezeP, freezeV, joinTags, joinTag, tags, ids, scalar, cellsLen, eqV, convV, faV, fvV, shiftBy, shiftRo, e, r2Fr, r3Fr])
      · generalize (rwriteL l codes sy 0 []).1 = B
        generalize (rwriteL l codes sy 0 []).2 = K
        refine ⟨0, ?_⟩
        simp -implicitDefEqProofs [-getElem?_pos, List.getElem?_cons_zero, List.getElem?_cons_succ, exec, runOps, dstOk, wantedV, AM.step, evalT, evalO, evalArgs, evalParts, getF, putF, afterRegion, assignV, boxOf, newBox, hasIdsP, keepF, ofVal, ofCell, plen, pesz, callV, builtinV, lenV, binV, unV, arith, shiftI, loadV, storeV, putV, indexAddrV, live, upd, pget, pset, psetA, pagg, retag, retagP, byteAV, freezeP, freezeV, joinTags, joinTag, tags, ids, scalar, cellsLen, eqV, convV, faV, fvV, shiftBy, shiftRo, r2Fr]
    · simp [blockOut] at h
  · intro h
    unfold r1O at h ⊢
    split at h
    · simp [blockOut] at h
    · rename_i hw
      rw [if_neg hw, if_neg hw]
      rfl

end Go.Proofs.Ytikleidhmekgnaa
