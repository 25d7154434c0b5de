/- Walks: the law HuffmanWrites. -/
import Derived.Test.YtikleidhmekgnaaWC
namespace Go.Proofs.Ytikleidhmekgnaa
open Go.AM
set_option linter.unusedSimpArgs false
set_option linter.unusedVariables false

theorem T6_lives (H : AM.Heap) : T6 10 [] H = some (.bool true, H) := by
  unfold T6 lentT
  simp [lendArgs, S6, idsL, cleanV, cleanH, tags, shiftV, shiftH, ren]

theorem T6_write {H : AM.Heap} {a a2 : AV} {l sy : List Int} (h : payOf H a = some (.pi .i64 l)) (h2 : payOf H a2 = some (.pi .i64 sy)) (hl : l.length < 9223372036854775808) (hs : sy.length ≤ 400) :
    T6 11 [a, a2] H = some (.tup [.sl H.length 0 (writeR l sy).1.length 0, .int .i64 (writeR l sy).2.1, .int .i64 (writeR l sy).2.2], H ++ [frB (writeR l sy).1]) := by
  obtain ⟨c2, x2, hx2⟩ := args_pay (C := X) (f := 11) (i := 1) rfl h2 (args_nil 2)
  obtain ⟨c, x, hx⟩ := args_pay (C := X) (f := 11) (i := 0) rfl h hx2
  unfold T6 lentT
  rw [hx]
  simp [S6, hl, hs, wrV, frB, idsL, ids, cleanV, cleanH, tags, tagsL, shiftV, shiftH, shiftN, ren, renL, renObj]

theorem T6_rwrite {H : AM.Heap} {a a2 : AV} {l sy : List Int} (h : payOf H a = some (.pi .i64 l)) (h2 : payOf H a2 = some (.pi .i64 sy)) (hl : l.length < 9223372036854775808) (hs : sy.length ≤ 400) :
    T6 12 [a, a2] H = some (.tup [.sl H.length 0 (rwriteR l sy).1.length 0, .int .i64 (rwriteR l sy).2.1, .int .i64 (rwriteR l sy).2.2], H ++ [frB (rwriteR l sy).1]) := by
  obtain ⟨c2, x2, hx2⟩ := args_pay (C := X) (f := 12) (i := 1) rfl h2 (args_nil 2)
  obtain ⟨c, x, hx⟩ := args_pay (C := X) (f := 12) (i := 0) rfl h hx2
  unfold T6 lentT
  rw [hx]
  simp [S6, hl, hs, wrV, frB, idsL, ids, cleanV, cleanH, tags, tagsL, shiftV, shiftH, shiftN, ren, renL, renObj]

theorem T6_same {H : AM.Heap} {a a2 : AV} {b b2 : List UInt8} (h : payOf H a = some (.pb b)) (h2 : payOf H a2 = some (.pb b2)) : T6 13 [a, a2] H = some (.bool (b == b2), H) := by
  obtain ⟨c2, x2, hx2⟩ := args_pay (C := X) (f := 13) (i := 1) rfl h2 (args_nil 2)
  obtain ⟨c, x, hx⟩ := args_pay (C := X) (f := 13) (i := 0) rfl h hx2
  unfold T6 lentT
  rw [hx]
  simp [S6, idsL, ids, cleanV, cleanH, tags, shiftV, shiftH, ren]

set_option maxRecDepth 100000 in
theorem writes_code (c c2 : Nat) (l sy : List Int) (hsame : l.length ≤ 400 → sy.length ≤ 400 → writeR l sy = rwriteR l sy) : ∃ code, Try.f4.body = some code ∧ ∃ H,
    Run X T6 4 0 code [(0, .ro c (.pi .i64 l) 1), (1, .ro c2 (.pi .i64 sy) 2)] [] ⟨.ret, [(4, .bool true)], H⟩ := by
  refine ⟨_, rfl, ?_⟩
  have hL := T6_lives
  by_cases h1 : 400 < (l.length : Int)
  · refine ⟨[], 0, ?_⟩
    simp -implicitDefEqProofs [-getElem?_pos, List.getElem?_cons_zero, List.getElem?_cons_succ, exec, runOps, dstOk, wantedV, AM.step, evalT, evalO, evalArgs, evalParts, getF, putF, afterRegion, assignV, boxOf, newBox, hasIdsP, keepF, ofVal, ofCell, plen, pesz, callV, builtinV, lenV, binV, unV, arith, shiftI, loadV, storeV, putV, indexAddrV, live, upd, pget, pset, psetA, pagg, retag, retagP, byteAV, freezeP, freezeV, joinTags, joinTag, tags, ids, scalar, cellsLen, eqV, convV, faV, fvV, shiftBy, shiftRo, hL, h1]
  by_cases h2 : 400 < (sy.length : Int)
  · refine ⟨[], 0, ?_⟩
    simp -implicitDefEqProofs [-getElem?_pos, List.getElem?_cons_zero, List.getElem?_cons_succ, exec, runOps, dstOk, wantedV, AM.step, evalT, evalO, evalArgs, evalParts, getF, putF, afterRegion, assignV, boxOf, newBox, hasIdsP, keepF, ofVal, ofCell, plen, pesz, callV, builtinV, lenV, binV, unV, arith, shiftI, loadV, storeV, putV, indexAddrV, live, upd, pget, pset, psetA, pagg, retag, retagP, byteAV, freezeP, freezeV, joinTags, joinTag, tags, ids, scalar, cellsLen, eqV, convV, faV, fvV, shiftBy, shiftRo, hL, h1, h2]
  have hs := hsame (by omega) (by omega)
  have hW := T6_write (H := []) (a := .ro c (.pi .i64 l) 1) (a2 := .ro c2 (.pi .i64 sy) 2) (l := l) (sy := sy) rfl rfl (by omega) (by omega)
  have hR := T6_rwrite (H := [frB (writeR l sy).1]) (a := .ro c (.pi .i64 l) 1) (a2 := .ro c2 (.pi .i64 sy) 2) (l := l) (sy := sy) rfl rfl (by omega) (by omega)
  rw [← hs] at hR
  generalize (writeR l sy) = r at hW hR
  have hB := T6_same (H := [frB r.1, frB r.1]) (a := .sl 0 0 r.1.length 0) (a2 := .sl 1 0 r.1.length 0) (b := r.1) (b2 := r.1) (by simp [payOf, live, frB, psub]) (by simp [payOf, live, frB, psub])
  simp only [List.nil_append, List.length_nil, List.length_cons, List.cons_append] at hW hR
  refine ⟨[frB r.1, frB r.1], 0, ?_⟩
  simp -implicitDefEqProofs [-getElem?_pos, List.getElem?_cons_zero, List.getElem?_cons_succ, exec, runOps, dstOk, wantedV, AM.step, evalT, evalO, evalArgs, evalParts, getF, putF, afterRegion, assignV, boxOf, newBox, hasIdsP, keepF, ofVal, ofCell, plen, pesz, callV, builtinV, lenV, binV, unV, arith, shiftI, loadV, storeV, putV, indexAddrV, live, upd, pget, pset, psetA, pagg, retag, retagP, byteAV, freezeP, freezeV, joinTags, joinTag, tags, ids, scalar, cellsLen, eqV, convV, faV, fvV, shiftBy, shiftRo, hL, h1, h2, hW, hR, hB]

theorem writes_ev (c c2 : Nat) (l sy : List Int) (hsame : l.length ≤ 400 → sy.length ≤ 400 → writeR l sy = rwriteR l sy) : Ev1 X 4 [.ro c (.pi .i64 l) 1, .ro c2 (.pi .i64 sy) 1] [] (.bool true, []) := by
  obtain ⟨code, hb, H, hr⟩ := writes_code c c2 l sy hsame
  exact Ev1.plain (args := [.ro c (.pi .i64 l) 1, .ro c2 (.pi .i64 sy) 1]) (l := [.bool true]) T6_below Try.func4 hb rfl rfl (by simp [gtag]) hr (.inr rfl) rfl rfl rfl

end Go.Proofs.Ytikleidhmekgnaa
