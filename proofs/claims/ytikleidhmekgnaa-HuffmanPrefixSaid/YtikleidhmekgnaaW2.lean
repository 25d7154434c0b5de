/- Walks: Check, firsts. -/
import Derived.Test.YtikleidhmekgnaaW1
namespace Go.Proofs.Ytikleidhmekgnaa
open Go.AM
set_option linter.unusedSimpArgs false
set_option linter.unusedVariables false

theorem countsR_len (l : List Int) : (countsR l).1.length = 16 := by
  unfold countsR
  split
  · rfl
  · rw [countL_len]; rfl

theorem countL_ok : ∀ (l n : List Int), (countL n l).2 = 0 → ∀ x ∈ l, 0 ≤ x ∧ x ≤ 15
  | [], n, _ => by simp
  | x :: r, n, h => by
    simp only [countL] at h
    split at h
    · rename_i hx
      intro y hy
      rcases List.mem_cons.1 hy with rfl | hy
      · exact hx
      · exact countL_ok r _ h y hy
    · simp at h

theorem countsR_ok {l : List Int} (h : (countsR l).2 = 0) : l.length ≤ 320 ∧ ∀ x ∈ l, 0 ≤ x ∧ x ≤ 15 := by
  unfold countsR at h
  split at h
  · simp at h
  · rename_i hl
    exact ⟨by omega, countL_ok l z16 h⟩

def cnt (l : List Int) : AV := .tup [.agg (.pi .i64 (countsR l).1), .int .i64 (countsR l).2]

theorem counts_ev (c : Nat) (l : List Int) (h63 : l.length < 9223372036854775808) : Ev1 X 21 [.ro c (.pi .i64 l) 1] [] (cnt l, []) := by
  obtain ⟨code, hb, hr⟩ := counts_code (fun _ _ _ => .none) c l h63
  have hn := countsR_len l
  exact Ev1.plain (l := [.agg (.pi .i64 (countsR l).1), .int .i64 (countsR l).2]) Below.none Try.func21 hb rfl rfl (by simp [gtag]) hr (.inr rfl) (by
    have : Try.f21.results.toList = [.cell 2 42, .tmp 3] := rfl
    rw [this]
    simp [-getElem?_pos, List.getElem?_cons_zero, resultsV, loadV, getF, live, bx, pagg, hn, retagP]) rfl rfl

def S1 (f : Nat) (xs : List AV) : Option (AV × AM.Heap) :=
  match f, xs with
  | 21, [.ro _ (.pi .i64 l) 1] => if l.length < 9223372036854775808 then some (cnt l, []) else .none
  | _, _ => .none

theorem S1_ok : ∀ f xs v N, S1 f xs = some (v, N) → Ev1 X f xs [] (v, N) := by
  intro f xs v N h
  unfold S1 at h
  split at h
  · split at h
    · rename_i hl
      simp only [Option.some.injEq, Prod.mk.injEq] at h
      obtain ⟨rfl, rfl⟩ := h
      exact counts_ev _ _ hl
    · cases h
  · cases h

noncomputable def T1 : Cf := lentT X S1
theorem T1_below : Below X T1 := lentT_below S1_ok

theorem T1_counts {H : AM.Heap} {a : AV} {l : List Int} (h : payOf H a = some (.pi .i64 l)) (hl : l.length < 9223372036854775808) : T1 21 [a] H = some (cnt l, H) := by
  obtain ⟨c, x, hx⟩ := args_pay (C := X) (f := 21) (i := 0) rfl h (args_nil 1)
  unfold T1 lentT
  rw [hx]
  simp [S1, hl, idsL, ids, cnt, cleanV, cleanH, tags, tagsL, shiftV, shiftH, ren, renL]

theorem T1_ro (c t : Nat) (l : List Int) (H : AM.Heap) (hl : l.length < 9223372036854775808) : T1 21 [.ro c (.pi .i64 l) t] H = some (cnt l, H) := T1_counts rfl hl

/-- Check's sum, k lengths from i on -/
def sumL (n : List Int) : Nat → Nat → Int → Int
  | 0, _, s => s
  | k + 1, i, s => sumL n k (i + 1) (IntKind.i64.wrap (s + IntKind.i64.wrap (n.getD i 0 * 2 ^ (min (15 - i) 64))))

def checkR (l : List Int) : Bool × Int :=
  if (countsR l).2 = 0 then
    if 32768 < sumL (countsR l).1 15 1 0 then (false, 7) else (sumL (countsR l).1 15 1 0 == 32768, 0)
  else (false, (countsR l).2)

set_option maxRecDepth 100000 in
theorem check_code (c : Nat) (l : List Int) (h63 : l.length < 9223372036854775808) : ∃ code, Try.f8.body = some code ∧
    Run X T1 8 0 code [(0, .ro c (.pi .i64 l) 1)] [] ⟨.ret, [(2, .bool (checkR l).1), (3, .int .i64 (checkR l).2)], [bx (countsR l).1]⟩ := by
  refine ⟨_, rfl, ?_⟩
  have hT := fun H => T1_ro c 1 l H h63
  have hn := countsR_len l
  unfold checkR
  unfold cnt at hT
  generalize (countsR l).1 = n at hT hn ⊢
  generalize (countsR l).2 = e at hT ⊢
  apply Run.seq
  · (refine ⟨0, ?_⟩; conv => lhs; simp -implicitDefEqProofs [-getElem?_pos, List.getElem?_cons_zero, List.getElem?_cons_succ, exec, runOps, dstOk, wantedV, AM.step, evalT, evalO, evalArgs, evalParts, getF, putF, afterRegion, assignV, boxOf, newBox, hasIdsP, keepF, ofVal, ofCell, plen, pesz, callV, builtinV, lenV, binV, unV, arith, shiftI, loadV, storeV, putV, indexAddrV, live, upd, pget, pset, psetA, pagg, retag, retagP, byteAV, freezeP, freezeV, joinTags, joinTag, tags, ids, scalar, cellsLen, eqV, convV, faV, fvV, shiftBy, shiftRo])
  apply Run.seq
  · (refine ⟨0, ?_⟩; conv => lhs; simp -implicitDefEqProofs [-getElem?_pos, List.getElem?_cons_zero, List.getElem?_cons_succ, exec, runOps, dstOk, wantedV, AM.step, evalT, evalO, evalArgs, evalParts, getF, putF, afterRegion, assignV, boxOf, newBox, hasIdsP, keepF, ofVal, ofCell, plen, pesz, callV, builtinV, lenV, binV, unV, arith, shiftI, loadV, storeV, putV, indexAddrV, live, upd, pget, pset, psetA, pagg, retag, retagP, byteAV, freezeP, freezeV, joinTags, joinTag, tags, ids, scalar, cellsLen, eqV, convV, faV, fvV, shiftBy, shiftRo, hT, hn])
  by_cases he : e = 0
  · subst he
    simp only [if_true]
    apply Run.seq
    · apply Run.seq
      · (refine ⟨0, ?_⟩; conv => lhs; simp -implicitDefEqProofs [-getElem?_pos, List.getElem?_cons_zero, List.getElem?_cons_succ, exec, runOps, dstOk, wantedV, AM.step, evalT, evalO, evalArgs, evalParts, getF, putF, afterRegion, assignV, boxOf, newBox, hasIdsP, keepF, ofVal, ofCell, plen, pesz, callV, builtinV, lenV, binV, unV, arith, shiftI, loadV, storeV, putV, indexAddrV, live, upd, pget, pset, psetA, pagg, retag, retagP, byteAV, freezeP, freezeV, joinTags, joinTag, tags, ids, scalar, cellsLen, eqV, convV, faV, fvV, shiftBy, shiftRo])
      · exact Run.cond (d := false) rfl ⟨0, rfl⟩
    apply Run.seq
    · (refine ⟨0, ?_⟩; conv => lhs; simp -implicitDefEqProofs [-getElem?_pos, List.getElem?_cons_zero, List.getElem?_cons_succ, exec, runOps, dstOk, wantedV, AM.step, evalT, evalO, evalArgs, evalParts, getF, putF, afterRegion, assignV, boxOf, newBox, hasIdsP, keepF, ofVal, ofCell, plen, pesz, callV, builtinV, lenV, binV, unV, arith, shiftI, loadV, storeV, putV, indexAddrV, live, upd, pget, pset, psetA, pagg, retag, retagP, byteAV, freezeP, freezeV, joinTags, joinTag, tags, ids, scalar, cellsLen, eqV, convV, faV, fvV, shiftBy, shiftRo])
    apply Run.seq (fr' := [(4, .ptr 0 0 0 0), (5, .int .i64 (sumL n 15 1 0)), (6, .int .i64 16), (16, .bool false)]) (H' := [bx n])
    · apply Run.seq (fr' := [(4, .ptr 0 0 0 0), (5, .int .i64 0), (6, .int .i64 (1 : Nat))]) (H' := [bx n])
      · (refine ⟨0, ?_⟩; simp -implicitDefEqProofs [-getElem?_pos, List.getElem?_cons_zero, List.getElem?_cons_succ, exec, runOps, dstOk, wantedV, AM.step, evalT, evalO, evalArgs, evalParts, getF, putF, afterRegion, assignV, boxOf, newBox, hasIdsP, keepF, ofVal, ofCell, plen, pesz, callV, builtinV, lenV, binV, unV, arith, shiftI, loadV, storeV, putV, indexAddrV, live, upd, pget, pset, psetA, pagg, retag, retagP, byteAV, freezeP, freezeV, joinTags, joinTag, tags, ids, scalar, cellsLen, eqV, convV, faV, fvV, shiftBy, shiftRo, bx])
      · apply Run.block_exit
        refine Run.loop_rule (σ := Nat × Nat × Int) (fun s => s.1 + s.2.1 = 16 ∧ 1 ≤ s.2.1) (fun s => [(4, .ptr 0 0 0 0), (5, .int .i64 s.2.2), (6, .int .i64 (s.2.1 : Nat))]) (fun _ => [bx n])
          (fun s => ⟨.exit 0, [(4, .ptr 0 0 0 0), (5, .int .i64 (sumL n s.1 s.2.1 s.2.2)), (6, .int .i64 16), (16, .bool false)], [bx n]⟩) (fun s => s.1) ?_ (15, 1, 0) ⟨rfl, Nat.le_refl 1⟩
        rintro ⟨k, i, s⟩ ⟨hk, hi⟩
        simp only at hk hi ⊢
        cases k with
        | zero =>
          right
          have : i = 16 := by omega
          subst this
          refine ⟨?_, by simp⟩
          apply Run.seq_out
          · (refine ⟨0, ?_⟩; simp -implicitDefEqProofs [-getElem?_pos, List.getElem?_cons_zero, List.getElem?_cons_succ, exec, runOps, dstOk, wantedV, AM.step, evalT, evalO, evalArgs, evalParts, getF, putF, afterRegion, assignV, boxOf, newBox, hasIdsP, keepF, ofVal, ofCell, plen, pesz, callV, builtinV, lenV, binV, unV, arith, shiftI, loadV, storeV, putV, indexAddrV, live, upd, pget, pset, psetA, pagg, retag, retagP, byteAV, freezeP, freezeV, joinTags, joinTag, tags, ids, scalar, cellsLen, eqV, convV, faV, fvV, shiftBy, shiftRo, sumL])
          · simp
        | succ k =>
          left
          refine ⟨(k, i + 1, IntKind.i64.wrap (s + IntKind.i64.wrap (n.getD i 0 * 2 ^ (min (15 - i) 64)))), ⟨show k + (i + 1) = 16 by omega, show 1 ≤ i + 1 by omega⟩, ?_, rfl, by simp⟩
          obtain ⟨v, hv⟩ : ∃ v, n[i]? = some v := ⟨n[i]'(by omega), List.getElem?_eq_getElem (by omega)⟩
          have hi15 : (i : Int) ≤ 15 := by omega
          have hi16 : i < 16 := by omega
          have hI16 : (i : Int) < 16 := by omega
          have e1 : IntKind.i64.wrap (15 - (i : Int)) = 15 - (i : Int) := wrap_i64 (by omega) (by omega)
          have e2 : (15 - (i : Int)).toNat = 15 - i := by omega
          have e3 : ¬ (15 - (i : Int) < 0) := by omega
          have e4 : IntKind.i64.wrap ((i : Int) + 1) = (i : Int) + 1 := wrap_i64 (by omega) (by omega)
          apply Run.seq
          · (refine ⟨0, ?_⟩; conv => lhs; simp -implicitDefEqProofs [-getElem?_pos, List.getElem?_cons_zero, List.getElem?_cons_succ, exec, runOps, dstOk, wantedV, AM.step, evalT, evalO, evalArgs, evalParts, getF, putF, afterRegion, assignV, boxOf, newBox, hasIdsP, keepF, ofVal, ofCell, plen, pesz, callV, builtinV, lenV, binV, unV, arith, shiftI, loadV, storeV, putV, indexAddrV, live, upd, pget, pset, psetA, pagg, retag, retagP, byteAV, freezeP, freezeV, joinTags, joinTag, tags, ids, scalar, cellsLen, eqV, convV, faV, fvV, shiftBy, shiftRo, hi15])
          apply Run.seq
          · apply Run.block
            · (refine ⟨0, ?_⟩; conv => lhs; simp -implicitDefEqProofs [-getElem?_pos, List.getElem?_cons_zero, List.getElem?_cons_succ, exec, runOps, dstOk, wantedV, AM.step, evalT, evalO, evalArgs, evalParts, getF, putF, afterRegion, assignV, boxOf, newBox, hasIdsP, keepF, ofVal, ofCell, plen, pesz, callV, builtinV, lenV, binV, unV, arith, shiftI, loadV, storeV, putV, indexAddrV, live, upd, pget, pset, psetA, pagg, retag, retagP, byteAV, freezeP, freezeV, joinTags, joinTag, tags, ids, scalar, cellsLen, eqV, convV, faV, fvV, shiftBy, shiftRo, bx, hn, hi16, hI16, hv, e1, e2, e3, IntKind.bits])
            · simp
          · (refine ⟨0, ?_⟩; simp -implicitDefEqProofs [-getElem?_pos, List.getElem?_cons_zero, List.getElem?_cons_succ, exec, runOps, dstOk, wantedV, AM.step, evalT, evalO, evalArgs, evalParts, getF, putF, afterRegion, assignV, boxOf, newBox, hasIdsP, keepF, ofVal, ofCell, plen, pesz, callV, builtinV, lenV, binV, unV, arith, shiftI, loadV, storeV, putV, indexAddrV, live, upd, pget, pset, psetA, pagg, retag, retagP, byteAV, freezeP, freezeV, joinTags, joinTag, tags, ids, scalar, cellsLen, eqV, convV, faV, fvV, shiftBy, shiftRo, e4, List.getD_eq_getElem?_getD, hv, bx])
    · by_cases hs : 32768 < sumL n 15 1 0
      · simp only [hs, if_true]
        apply Run.seq_out
        · apply Run.seq
          · (refine ⟨0, ?_⟩; conv => lhs; simp -implicitDefEqProofs [-getElem?_pos, List.getElem?_cons_zero, List.getElem?_cons_succ, exec, runOps, dstOk, wantedV, AM.step, evalT, evalO, evalArgs, evalParts, getF, putF, afterRegion, assignV, boxOf, newBox, hasIdsP, keepF, ofVal, ofCell, plen, pesz, callV, builtinV, lenV, binV, unV, arith, shiftI, loadV, storeV, putV, indexAddrV, live, upd, pget, pset, psetA, pagg, retag, retagP, byteAV, freezeP, freezeV, joinTags, joinTag, tags, ids, scalar, cellsLen, eqV, convV, faV, fvV, shiftBy, shiftRo, hs])
          · refine Run.cond (d := true) rfl ?_
            apply Run.seq
            · (refine ⟨0, ?_⟩; conv => lhs; simp -implicitDefEqProofs [-getElem?_pos, List.getElem?_cons_zero, List.getElem?_cons_succ, exec, runOps, dstOk, wantedV, AM.step, evalT, evalO, evalArgs, evalParts, getF, putF, afterRegion, assignV, boxOf, newBox, hasIdsP, keepF, ofVal, ofCell, plen, pesz, callV, builtinV, lenV, binV, unV, arith, shiftI, loadV, storeV, putV, indexAddrV, live, upd, pget, pset, psetA, pagg, retag, retagP, byteAV, freezeP, freezeV, joinTags, joinTag, tags, ids, scalar, cellsLen, eqV, convV, faV, fvV, shiftBy, shiftRo])
            · exact ⟨0, rfl⟩
        · simp
      · simp only [hs, if_false]
        apply Run.seq
        · apply Run.seq
          · (refine ⟨0, ?_⟩; conv => lhs; simp -implicitDefEqProofs [-getElem?_pos, List.getElem?_cons_zero, List.getElem?_cons_succ, exec, runOps, dstOk, wantedV, AM.step, evalT, evalO, evalArgs, evalParts, getF, putF, afterRegion, assignV, boxOf, newBox, hasIdsP, keepF, ofVal, ofCell, plen, pesz, callV, builtinV, lenV, binV, unV, arith, shiftI, loadV, storeV, putV, indexAddrV, live, upd, pget, pset, psetA, pagg, retag, retagP, byteAV, freezeP, freezeV, joinTags, joinTag, tags, ids, scalar, cellsLen, eqV, convV, faV, fvV, shiftBy, shiftRo, hs])
          · exact Run.cond (d := false) rfl ⟨0, rfl⟩
        apply Run.seq
        · (refine ⟨0, ?_⟩; conv => lhs; simp -implicitDefEqProofs [-getElem?_pos, List.getElem?_cons_zero, List.getElem?_cons_succ, exec, runOps, dstOk, wantedV, AM.step, evalT, evalO, evalArgs, evalParts, getF, putF, afterRegion, assignV, boxOf, newBox, hasIdsP, keepF, ofVal, ofCell, plen, pesz, callV, builtinV, lenV, binV, unV, arith, shiftI, loadV, storeV, putV, indexAddrV, live, upd, pget, pset, psetA, pagg, retag, retagP, byteAV, freezeP, freezeV, joinTags, joinTag, tags, ids, scalar, cellsLen, eqV, convV, faV, fvV, shiftBy, shiftRo])
        · exact ⟨0, rfl⟩
  · simp only [he, if_false]
    have hb : (e != 0) = true := by simpa using he
    apply Run.seq_out
    · apply Run.seq
      · (refine ⟨0, ?_⟩; conv => lhs; simp -implicitDefEqProofs [-getElem?_pos, List.getElem?_cons_zero, List.getElem?_cons_succ, exec, runOps, dstOk, wantedV, AM.step, evalT, evalO, evalArgs, evalParts, getF, putF, afterRegion, assignV, boxOf, newBox, hasIdsP, keepF, ofVal, ofCell, plen, pesz, callV, builtinV, lenV, binV, unV, arith, shiftI, loadV, storeV, putV, indexAddrV, live, upd, pget, pset, psetA, pagg, retag, retagP, byteAV, freezeP, freezeV, joinTags, joinTag, tags, ids, scalar, cellsLen, eqV, convV, faV, fvV, shiftBy, shiftRo, hb])
      · refine Run.cond (d := true) rfl ?_
        apply Run.seq
        · (refine ⟨0, ?_⟩; conv => lhs; simp -implicitDefEqProofs [-getElem?_pos, List.getElem?_cons_zero, List.getElem?_cons_succ, exec, runOps, dstOk, wantedV, AM.step, evalT, evalO, evalArgs, evalParts, getF, putF, afterRegion, assignV, boxOf, newBox, hasIdsP, keepF, ofVal, ofCell, plen, pesz, callV, builtinV, lenV, binV, unV, arith, shiftI, loadV, storeV, putV, indexAddrV, live, upd, pget, pset, psetA, pagg, retag, retagP, byteAV, freezeP, freezeV, joinTags, joinTag, tags, ids, scalar, cellsLen, eqV, convV, faV, fvV, shiftBy, shiftRo, bx])
        · exact ⟨0, rfl⟩
    · simp

end Go.Proofs.Ytikleidhmekgnaa
