/- Walks: firsts. -/
import Derived.Test.YtikleidhmekgnaaW2
namespace Go.Proofs.Ytikleidhmekgnaa
open Go.AM
set_option linter.unusedSimpArgs false
set_option linter.unusedVariables false

def bx17 (n : List Int) : Option AM.Obj := some { p := .pi .i64 n, g := 0, cap := some 17, z := 1, row := false, ids := false, tg := 0 }
def z17 : List Int := [0, 0, 0, 0, 0, 0, 0, 0, 0, 0, 0, 0, 0, 0, 0, 0, 0]

/-- the first codes, k lengths from i on -/
def firstL (n : List Int) : Nat → Nat → List Int → List Int
  | 0, _, f => f
  | k + 1, i, f => firstL n k (i + 1) (f.set (i + 1) (IntKind.i64.wrap (IntKind.i64.wrap (f.getD i 0 + n.getD i 0) * 2)))

def firstsR (n : List Int) : List Int := firstL (n.set 0 0) 15 1 z17

theorem firstL_len (n : List Int) : ∀ (k i : Nat) (f : List Int), (firstL n k i f).length = f.length
  | 0, _, _ => rfl
  | k + 1, i, f => by rw [firstL, firstL_len n k]; simp

set_option maxRecDepth 100000 in
theorem firsts_code (T : Cf) (n0 : List Int) (hn0 : n0.length = 16) : ∃ code, Try.f24.body = some code ∧
    Run X T 24 0 code [(0, .agg (.pi .i64 n0))] [] ⟨.ret, [(2, .ptr 1 0 0 0)], [bx (n0.set 0 0), bx17 (firstsR n0), bx17 (firstsR n0)]⟩ := by
  refine ⟨_, rfl, ?_⟩
  unfold firstsR
  have hn : (n0.set 0 0).length = 16 := by simpa using hn0
  have h0 : 0 < n0.length := by omega
  apply Run.seq
  · (refine ⟨0, ?_⟩; conv => lhs; simp -implicitDefEqProofs [-getElem?_pos, List.getElem?_cons_zero, List.getElem?_cons_succ, exec, runOps, dstOk, wantedV, AM.step, evalT, evalO, evalArgs, evalParts, getF, putF, afterRegion, assignV, boxOf, newBox, hasIdsP, keepF, ofVal, ofCell, plen, pesz, callV, builtinV, lenV, binV, unV, arith, shiftI, loadV, storeV, putV, indexAddrV, live, upd, pget, pset, psetA, pagg, retag, retagP, byteAV, freezeP, freezeV, joinTags, joinTag, tags, ids, scalar, cellsLen, eqV, convV, faV, fvV, shiftBy, shiftRo, hn0])
  apply Run.seq
  · (refine ⟨0, ?_⟩; conv => lhs; simp -implicitDefEqProofs [-getElem?_pos, List.getElem?_cons_zero, List.getElem?_cons_succ, exec, runOps, dstOk, wantedV, AM.step, evalT, evalO, evalArgs, evalParts, getF, putF, afterRegion, assignV, boxOf, newBox, hasIdsP, keepF, ofVal, ofCell, plen, pesz, callV, builtinV, lenV, binV, unV, arith, shiftI, loadV, storeV, putV, indexAddrV, live, upd, pget, pset, psetA, pagg, retag, retagP, byteAV, freezeP, freezeV, joinTags, joinTag, tags, ids, scalar, cellsLen, eqV, convV, faV, fvV, shiftBy, shiftRo])
  apply Run.seq (fr' := [(1, .ptr 0 0 0 0), (2, .ptr 1 0 0 0), (3, .ptr 2 0 0 0)]) (H' := [bx (n0.set 0 0), bx17 z17, bx17 z17])
  · (refine ⟨0, ?_⟩; simp -implicitDefEqProofs [-getElem?_pos, List.getElem?_cons_zero, List.getElem?_cons_succ, exec, runOps, dstOk, wantedV, AM.step, evalT, evalO, evalArgs, evalParts, getF, putF, afterRegion, assignV, boxOf, newBox, hasIdsP, keepF, ofVal, ofCell, plen, pesz, callV, builtinV, lenV, binV, unV, arith, shiftI, loadV, storeV, putV, indexAddrV, live, upd, pget, pset, psetA, pagg, retag, retagP, byteAV, freezeP, freezeV, joinTags, joinTag, tags, ids, scalar, cellsLen, eqV, convV, faV, fvV, shiftBy, shiftRo, h0, bx, bx17, z17, hn0])
  generalize n0.set 0 0 = n at hn ⊢
  have hlen := firstL_len n 15 1 z17
  apply Run.seq (fr' := [(1, .ptr 0 0 0 0), (2, .ptr 1 0 0 0), (3, .ptr 2 0 0 0), (4, .int .i64 16), (7, .bool false)]) (H' := [bx n, bx17 z17, bx17 (firstL n 15 1 z17)])
  · apply Run.seq (fr' := [(1, .ptr 0 0 0 0), (2, .ptr 1 0 0 0), (3, .ptr 2 0 0 0), (4, .int .i64 (1 : Nat))]) (H' := [bx n, bx17 z17, bx17 z17])
    · (refine ⟨0, ?_⟩; simp -implicitDefEqProofs [-getElem?_pos, List.getElem?_cons_zero, List.getElem?_cons_succ, exec, runOps, dstOk, wantedV, AM.step, evalT, evalO, evalArgs, evalParts, getF, putF, afterRegion, assignV, boxOf, newBox, hasIdsP, keepF, ofVal, ofCell, plen, pesz, callV, builtinV, lenV, binV, unV, arith, shiftI, loadV, storeV, putV, indexAddrV, live, upd, pget, pset, psetA, pagg, retag, retagP, byteAV, freezeP, freezeV, joinTags, joinTag, tags, ids, scalar, cellsLen, eqV, convV, faV, fvV, shiftBy, shiftRo])
    · apply Run.block_exit
      refine Run.loop_rule (σ := Nat × Nat × List Int) (fun s => s.1 + s.2.1 = 16 ∧ 1 ≤ s.2.1 ∧ s.2.2.length = 17) (fun s => [(1, .ptr 0 0 0 0), (2, .ptr 1 0 0 0), (3, .ptr 2 0 0 0), (4, .int .i64 (s.2.1 : Nat))]) (fun s => [bx n, bx17 z17, bx17 s.2.2])
        (fun s => ⟨.exit 0, [(1, .ptr 0 0 0 0), (2, .ptr 1 0 0 0), (3, .ptr 2 0 0 0), (4, .int .i64 16), (7, .bool false)], [bx n, bx17 z17, bx17 (firstL n s.1 s.2.1 s.2.2)]⟩) (fun s => s.1) ?_ (15, 1, z17) ⟨rfl, Nat.le_refl 1, rfl⟩
      rintro ⟨k, i, f⟩ ⟨hk, hi, hf⟩
      simp only at hk hi hf ⊢
      cases k with
      | zero =>
        right
        have : i = 16 := by omega
        subst this
        refine ⟨?_, by simp⟩
        apply Run.seq_out
        · (refine ⟨0, ?_⟩; simp -implicitDefEqProofs [-getElem?_pos, List.getElem?_cons_zero, List.getElem?_cons_succ, exec, runOps, dstOk, wantedV, AM.step, evalT, evalO, evalArgs, evalParts, getF, putF, afterRegion, assignV, boxOf, newBox, hasIdsP, keepF, ofVal, ofCell, plen, pesz, callV, builtinV, lenV, binV, unV, arith, shiftI, loadV, storeV, putV, indexAddrV, live, upd, pget, pset, psetA, pagg, retag, retagP, byteAV, freezeP, freezeV, joinTags, joinTag, tags, ids, scalar, cellsLen, eqV, convV, faV, fvV, shiftBy, shiftRo, firstL])
        · simp
      | succ k =>
        left
        refine ⟨(k, i + 1, f.set (i + 1) (IntKind.i64.wrap (IntKind.i64.wrap (f.getD i 0 + n.getD i 0) * 2))), ⟨show k + (i + 1) = 16 by omega, show 1 ≤ i + 1 by omega, by simpa using hf⟩, ?_, rfl, by simp⟩
        obtain ⟨v, hv⟩ : ∃ v, n[i]? = some v := ⟨n[i]'(by omega), List.getElem?_eq_getElem (by omega)⟩
        obtain ⟨u, hu⟩ : ∃ v, f[i]? = some v := ⟨f[i]'(by omega), List.getElem?_eq_getElem (by omega)⟩
        have hi15 : (i : Int) ≤ 15 := by omega
        have hi16 : i < 16 := by omega
        have hI16 : (i : Int) < 16 := by omega
        have hI17 : (i : Int) < 17 := by omega
        have hJ17 : i + 1 < 17 := by omega
        have hi17 : i < 17 := by omega
        have hiI : (i : Int) + 1 < 17 := by omega
        have hiJ : (0 : Int) ≤ (i : Int) + 1 := by omega
        have e4 : IntKind.i64.wrap ((i : Int) + 1) = (i : Int) + 1 := wrap_i64 (by omega) (by omega)
        have e5 : ((i : Int) + 1).toNat = i + 1 := by omega
        apply Run.seq
        · (refine ⟨0, ?_⟩; conv => lhs; simp -implicitDefEqProofs [-getElem?_pos, List.getElem?_cons_zero, List.getElem?_cons_succ, exec, runOps, dstOk, wantedV, AM.step, evalT, evalO, evalArgs, evalParts, getF, putF, afterRegion, assignV, boxOf, newBox, hasIdsP, keepF, ofVal, ofCell, plen, pesz, callV, builtinV, lenV, binV, unV, arith, shiftI, loadV, storeV, putV, indexAddrV, live, upd, pget, pset, psetA, pagg, retag, retagP, byteAV, freezeP, freezeV, joinTags, joinTag, tags, ids, scalar, cellsLen, eqV, convV, faV, fvV, shiftBy, shiftRo, hi15])
        apply Run.seq
        · apply Run.block
          · (refine ⟨0, ?_⟩; conv => lhs; simp -implicitDefEqProofs [-getElem?_pos, List.getElem?_cons_zero, List.getElem?_cons_succ, exec, runOps, dstOk, wantedV, AM.step, evalT, evalO, evalArgs, evalParts, getF, putF, afterRegion, assignV, boxOf, newBox, hasIdsP, keepF, ofVal, ofCell, plen, pesz, callV, builtinV, lenV, binV, unV, arith, shiftI, loadV, storeV, putV, indexAddrV, live, upd, pget, pset, psetA, pagg, retag, retagP, byteAV, freezeP, freezeV, joinTags, joinTag, tags, ids, scalar, cellsLen, eqV, convV, faV, fvV, shiftBy, shiftRo, bx, bx17, hn, hf, hi16, hI16, hI17, hJ17, hi17, hiI, hiJ, hv, hu, e4, e5, IntKind.bits])
          · simp
        · (refine ⟨0, ?_⟩; simp -implicitDefEqProofs [-getElem?_pos, List.getElem?_cons_zero, List.getElem?_cons_succ, exec, runOps, dstOk, wantedV, AM.step, evalT, evalO, evalArgs, evalParts, getF, putF, afterRegion, assignV, boxOf, newBox, hasIdsP, keepF, ofVal, ofCell, plen, pesz, callV, builtinV, lenV, binV, unV, arith, shiftI, loadV, storeV, putV, indexAddrV, live, upd, pget, pset, psetA, pagg, retag, retagP, byteAV, freezeP, freezeV, joinTags, joinTag, tags, ids, scalar, cellsLen, eqV, convV, faV, fvV, shiftBy, shiftRo, e4, List.getD_eq_getElem?_getD, hv, hu, bx, bx17])
  generalize firstL n 15 1 z17 = F at hlen ⊢
  have hF : F.length = 17 := hlen
  apply Run.seq
  · (refine ⟨0, ?_⟩; conv => lhs; simp -implicitDefEqProofs [-getElem?_pos, List.getElem?_cons_zero, List.getElem?_cons_succ, exec, runOps, dstOk, wantedV, AM.step, evalT, evalO, evalArgs, evalParts, getF, putF, afterRegion, assignV, boxOf, newBox, hasIdsP, keepF, ofVal, ofCell, plen, pesz, callV, builtinV, lenV, binV, unV, arith, shiftI, loadV, storeV, putV, indexAddrV, live, upd, pget, pset, psetA, pagg, retag, retagP, byteAV, freezeP, freezeV, joinTags, joinTag, tags, ids, scalar, cellsLen, eqV, convV, faV, fvV, shiftBy, shiftRo, bx, bx17, z17, hF])
  · exact ⟨0, rfl⟩

def ckV (l : List Int) : AV := .tup [.bool (checkR l).1, .int .i64 (checkR l).2]

theorem check_ev (c : Nat) (l : List Int) (h63 : l.length < 9223372036854775808) : Ev1 X 8 [.ro c (.pi .i64 l) 1] [] (ckV l, []) := by
  obtain ⟨code, hb, hr⟩ := check_code c l h63
  exact Ev1.plain (l := [.bool (checkR l).1, .int .i64 (checkR l).2]) T1_below Try.func8 hb rfl rfl (by simp [gtag]) hr (.inr rfl) rfl rfl rfl

theorem firsts_ev (n : List Int) (hn : n.length = 16) : Ev1 X 24 [.agg (.pi .i64 n)] [] (.agg (.pi .i64 (firstsR n)), []) := by
  obtain ⟨code, hb, hr⟩ := firsts_code (fun _ _ _ => .none) n hn
  have hF : (firstsR n).length = 17 := firstL_len _ _ _ _
  exact Ev1.plain (l := [.agg (.pi .i64 (firstsR n))]) Below.none Try.func24 hb rfl rfl (by simp [gtag]) hr (.inr rfl) (by
    have : Try.f24.results.toList = [.cell 2 48] := rfl
    rw [this]
    simp [-getElem?_pos, List.getElem?_cons_zero, List.getElem?_cons_succ, resultsV, loadV, getF, live, bx, bx17, pagg, hF, retagP]) rfl rfl

def S2 (f : Nat) (xs : List AV) : Option (AV × AM.Heap) :=
  match f, xs with
  | 8, [.ro _ (.pi .i64 l) 1] => if l.length < 9223372036854775808 then some (ckV l, []) else .none
  | 24, [.agg (.pi .i64 n)] => if n.length = 16 then some (.agg (.pi .i64 (firstsR n)), []) else .none
  | f, xs => S1 f xs

theorem S2_ok : ∀ f xs v N, S2 f xs = some (v, N) → Ev1 X f xs [] (v, N) := by
  intro f xs v N h
  unfold S2 at h
  split at h
  · split at h
    · rename_i hl
      simp only [Option.some.injEq, Prod.mk.injEq] at h
      obtain ⟨rfl, rfl⟩ := h
      exact check_ev _ _ hl
    · cases h
  · split at h
    · rename_i hl
      simp only [Option.some.injEq, Prod.mk.injEq] at h
      obtain ⟨rfl, rfl⟩ := h
      exact firsts_ev _ hl
    · cases h
  · exact S1_ok _ _ _ _ h

noncomputable def T2 : Cf := lentT X S2
theorem T2_below : Below X T2 := lentT_below S2_ok

theorem T2_counts {H : AM.Heap} {a : AV} {l : List Int} (h : payOf H a = some (.pi .i64 l)) (hl : l.length < 9223372036854775808) : T2 21 [a] H = some (cnt l, H) := by
  obtain ⟨c, x, hx⟩ := args_pay (C := X) (f := 21) (i := 0) rfl h (args_nil 1)
  unfold T2 lentT
  rw [hx]
  simp [S1, S2, hl, idsL, ids, cnt, cleanV, cleanH, tags, tagsL, shiftV, shiftH, ren, renL]

theorem T2_check {H : AM.Heap} {a : AV} {l : List Int} (h : payOf H a = some (.pi .i64 l)) (hl : l.length < 9223372036854775808) : T2 8 [a] H = some (ckV l, H) := by
  obtain ⟨c, x, hx⟩ := args_pay (C := X) (f := 8) (i := 0) rfl h (args_nil 1)
  unfold T2 lentT
  rw [hx]
  simp [S2, hl, idsL, ids, ckV, cleanV, cleanH, tags, tagsL, shiftV, shiftH, ren, renL]

theorem T2_firsts {H : AM.Heap} {n : List Int} (hn : n.length = 16) : T2 24 [.agg (.pi .i64 n)] H = some (.agg (.pi .i64 (firstsR n)), H) := by
  unfold T2 lentT
  rw [args_flat (C := X) (f := 24) (i := 0) rfl rfl (args_nil 1)]
  simp [S2, hn, idsL, ids, cleanV, cleanH, tags, tagsL, shiftV, shiftH, ren, renL]

end Go.Proofs.Ytikleidhmekgnaa
