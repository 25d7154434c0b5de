/- Walks: the document's Codes. -/
import Derived.Test.YtikleidhmekgnaaW7
namespace Go.Proofs.Ytikleidhmekgnaa
open Go.AM
set_option linter.unusedSimpArgs false
set_option linter.unusedVariables false

def rckV (l : List Int) : AV := .tup [.bool (rcheckR l).1, .int .i64 (rcheckR l).2]

theorem rcheck_ev (c : Nat) (l : List Int) (h63 : l.length < 9223372036854775808) : Ev1 X 15 [.ro c (.pi .i64 l) 1] [] (rckV l, []) := by
  obtain ⟨code, hb, hr⟩ := rcheck_code (fun _ _ _ => .none) c l h63
  exact Ev1.plain (l := [.bool (rcheckR l).1, .int .i64 (rcheckR l).2]) Below.none Try.func15 hb rfl rfl (by simp [gtag]) hr (.inr rfl) rfl rfl rfl

def S4 (f : Nat) (xs : List AV) : Option (AV × AM.Heap) :=
  match f, xs with
  | 15, [.ro _ (.pi .i64 l) 1] => if l.length < 9223372036854775808 then some (rckV l, []) else .none
  | f, xs => S3 f xs

theorem S4_ok : ∀ f xs v N, S4 f xs = some (v, N) → Ev1 X f xs [] (v, N) := by
  intro f xs v N h
  unfold S4 at h
  split at h
  · split at h
    · rename_i hl
      simp only [Option.some.injEq, Prod.mk.injEq] at h
      obtain ⟨rfl, rfl⟩ := h
      exact rcheck_ev _ _ hl
    · cases h
  · exact S3_ok _ _ _ _ h

noncomputable def T4 : Cf := lentT X S4
theorem T4_below : Below X T4 := lentT_below S4_ok

theorem T4_check {H : AM.Heap} {a : AV} {l : List Int} (h : payOf H a = some (.pi .i64 l)) (hl : l.length < 9223372036854775808) : T4 15 [a] H = some (rckV l, H) := by
  obtain ⟨c, x, hx⟩ := args_pay (C := X) (f := 15) (i := 0) rfl h (args_nil 1)
  unfold T4 lentT
  rw [hx]
  simp [S4, hl, idsL, ids, rckV, cleanV, cleanH, tags, tagsL, shiftV, shiftH, ren, renL]

theorem u64_nonneg (n : Int) : 0 ≤ IntKind.u64.wrap n := by
  have h : IntKind.u64.wrap n = n % 18446744073709551616 := by
    simp [IntKind.wrap, IntKind.signed, IntKind.bits]
  rw [h]
  omega

/-- the next code, of length n, behind one of length la -/
def rStep (n nx la : Int) : Int := if 0 < la then IntKind.i64.wrap (IntKind.i64.wrap (nx + 1) * 2 ^ (min (IntKind.u64.wrap (IntKind.i64.wrap (n - la))).toNat 64)) else nx

/-- the codes of length n -/
def rIn (n : Int) : List Int → Nat → Int → Int → List Int → Int × Int × List Int
  | [], _, nx, la, o => (nx, la, o)
  | x :: r, i, nx, la, o => if x = n then rIn n r (i + 1) (rStep n nx la) n (o.set i (rStep n nx la)) else rIn n r (i + 1) nx la o

/-- the codes of k lengths from n on -/
def rOut (l : List Int) : Nat → Nat → Int → Int → List Int → Int × Int × List Int
  | 0, _, nx, la, o => (nx, la, o)
  | k + 1, n, nx, la, o => rOut l k (n + 1) (rIn n l 0 nx la o).1 (rIn n l 0 nx la o).2.1 (rIn n l 0 nx la o).2.2

/-- no code where the length is none -/
def rNeg : List Int → Nat → List Int → List Int
  | [], _, o => o
  | x :: r, i, o => rNeg r (i + 1) (if x = 0 then o.set i (-1) else o)

def rcodesR (l : List Int) : List Int := rNeg l 0 (rOut l 15 1 0 0 (List.replicate l.length 0)).2.2

theorem rIn_len (n : Int) : ∀ (l : List Int) (i : Nat) (nx la : Int) (o : List Int), (rIn n l i nx la o).2.2.length = o.length
  | [], _, _, _, _ => rfl
  | x :: r, i, nx, la, o => by
    simp only [rIn]
    split
    · rw [rIn_len n r]; simp
    · rw [rIn_len n r]

theorem rOut_len (l : List Int) : ∀ (k n : Nat) (nx la : Int) (o : List Int), (rOut l k n nx la o).2.2.length = o.length
  | 0, _, _, _, _ => rfl
  | k + 1, n, nx, la, o => by rw [rOut, rOut_len l k, rIn_len]

theorem rNeg_len : ∀ (l : List Int) (i : Nat) (o : List Int), (rNeg l i o).length = o.length
  | [], _, _ => rfl
  | x :: r, i, o => by
    rw [rNeg, rNeg_len r]
    split <;> simp

def rcFr (c : Nat) (l : List Int) (nx la : Int) (n : Nat) : AM.Frame := [(0, .ro c (.pi .i64 l) 1), (6, .sl 1 0 l.length 0), (7, .int .i64 nx), (8, .int .i64 la), (9, .int .i64 (n : Nat))]
def riFr (c : Nat) (l : List Int) (nx la : Int) (n i : Nat) : AM.Frame := [(0, .ro c (.pi .i64 l) 1), (6, .sl 1 0 l.length 0), (7, .int .i64 nx), (8, .int .i64 la), (9, .int .i64 (n : Nat)), (10, .int .i64 (i : Nat))]

def rnFr (c : Nat) (l : List Int) (i : Nat) : AM.Frame := [(0, .ro c (.pi .i64 l) 1), (6, .sl 1 0 l.length 0), (11, .int .i64 (i : Nat))]

set_option maxRecDepth 100000 in
theorem rcodes_bad (c : Nat) (l : List Int) (h63 : l.length < 9223372036854775808) (he : (rcheckR l).2 ≠ 0) : ∃ code, Try.f16.body = some code ∧
    Run X T4 16 0 code [(0, .ro c (.pi .i64 l) 1)] [] ⟨.ret, [(2, .sl 1 0 0 0), (3, .int .i64 (rcheckR l).2)], [nilI, nilI]⟩ := by
  refine ⟨_, rfl, ?_⟩
  have hT := fun H => T4_check (H := H) (a := .ro c (.pi .i64 l) 1) rfl h63
  unfold rckV at hT
  have hb : ((rcheckR l).2 != 0) = true := by simpa using he
  refine ⟨0, ?_⟩
  simp -implicitDefEqProofs [-getElem?_pos, List.getElem?_cons_zero, List.getElem?_cons_succ, exec, runOps, dstOk, wantedV, AM.step, evalT, evalO, evalArgs, evalParts, getF, putF, afterRegion, assignV, boxOf, newBox, hasIdsP, keepF, ofVal, ofCell, plen, pesz, callV, builtinV, lenV, binV, unV, arith, shiftI, loadV, storeV, putV, indexAddrV, live, upd, pget, pset, psetA, pagg, retag, retagP, byteAV, freezeP, freezeV, joinTags, joinTag, tags, ids, scalar, cellsLen, eqV, convV, faV, fvV, shiftBy, shiftRo, hT, hb, he, rowOf, emptyRow, nilI]

set_option maxRecDepth 100000 in
theorem rcodes_code (c : Nat) (l : List Int) (he : (rcheckR l).2 = 0) (h320 : l.length ≤ 320) : ∃ code, Try.f16.body = some code ∧
    Run X T4 16 0 code [(0, .ro c (.pi .i64 l) 1)] [] ⟨.ret, [(2, .sl 1 0 l.length 0), (3, .int .i64 0)], [nilI, rowI l.length (rcodesR l)]⟩ := by
  have h63 : l.length < 9223372036854775808 := by omega
  have hm1 : (l.length : Int) ≤ 9223372036854775807 := by omega
  have hm2 : 8 * (l.length : Int) ≤ 140737488355328 := by omega
  have hT := fun H => T4_check (H := H) (a := .ro c (.pi .i64 l) 1) rfl h63
  unfold rckV at hT
  have hu : ∀ n, ¬ (IntKind.u64.wrap n < 0) := fun n => by have := u64_nonneg n; omega
  unfold rcodesR
  generalize hK : (15 : Nat) = K
  refine ⟨_, rfl, ?_⟩
  apply Run.seq
  · (refine ⟨0, ?_⟩; conv => lhs; simp -implicitDefEqProofs [-getElem?_pos, List.getElem?_cons_zero, List.getElem?_cons_succ, exec, runOps, dstOk, wantedV, AM.step, evalT, evalO, evalArgs, evalParts, getF, putF, afterRegion, assignV, boxOf, newBox, hasIdsP, keepF, ofVal, ofCell, plen, pesz, callV, builtinV, lenV, binV, unV, arith, shiftI, loadV, storeV, putV, indexAddrV, live, upd, pget, pset, psetA, pagg, retag, retagP, byteAV, freezeP, freezeV, joinTags, joinTag, tags, ids, scalar, cellsLen, eqV, convV, faV, fvV, shiftBy, shiftRo, rowOf, emptyRow])
  apply Run.seq
  · (refine ⟨0, ?_⟩; conv => lhs; simp -implicitDefEqProofs [-getElem?_pos, List.getElem?_cons_zero, List.getElem?_cons_succ, exec, runOps, dstOk, wantedV, AM.step, evalT, evalO, evalArgs, evalParts, getF, putF, afterRegion, assignV, boxOf, newBox, hasIdsP, keepF, ofVal, ofCell, plen, pesz, callV, builtinV, lenV, binV, unV, arith, shiftI, loadV, storeV, putV, indexAddrV, live, upd, pget, pset, psetA, pagg, retag, retagP, byteAV, freezeP, freezeV, joinTags, joinTag, tags, ids, scalar, cellsLen, eqV, convV, faV, fvV, shiftBy, shiftRo, hT, he])
  apply Run.seq
  · (refine ⟨0, ?_⟩; conv => lhs; simp -implicitDefEqProofs [-getElem?_pos, List.getElem?_cons_zero, List.getElem?_cons_succ, exec, runOps, dstOk, wantedV, AM.step, evalT, evalO, evalArgs, evalParts, getF, putF, afterRegion, assignV, boxOf, newBox, hasIdsP, keepF, ofVal, ofCell, plen, pesz, callV, builtinV, lenV, binV, unV, arith, shiftI, loadV, storeV, putV, indexAddrV, live, upd, pget, pset, psetA, pagg, retag, retagP, byteAV, freezeP, freezeV, joinTags, joinTag, tags, ids, scalar, cellsLen, eqV, convV, faV, fvV, shiftBy, shiftRo])
  apply Run.seq (fr' := [(0, .ro c (.pi .i64 l) 1), (6, .sl 1 0 l.length 0)]) (H' := [nilI, rowI l.length (List.replicate l.length 0)])
  · (refine ⟨0, ?_⟩; simp -implicitDefEqProofs [-getElem?_pos, List.getElem?_cons_zero, List.getElem?_cons_succ, exec, runOps, dstOk, wantedV, AM.step, evalT, evalO, evalArgs, evalParts, getF, putF, afterRegion, assignV, boxOf, newBox, hasIdsP, keepF, ofVal, ofCell, plen, pesz, callV, builtinV, lenV, binV, unV, arith, shiftI, loadV, storeV, putV, indexAddrV, live, upd, pget, pset, psetA, pagg, retag, retagP, byteAV, freezeP, freezeV, joinTags, joinTag, tags, ids, scalar, cellsLen, eqV, convV, faV, fvV, shiftBy, shiftRo, makeSliceV, zeroRow, cellsAV, scalars, idsL, ids, tagsL, rowOf, hm1, hm2, nilI, rowI])
  apply Run.seq
  · (refine ⟨0, ?_⟩; conv => lhs; simp -implicitDefEqProofs [-getElem?_pos, List.getElem?_cons_zero, List.getElem?_cons_succ, exec, runOps, dstOk, wantedV, AM.step, evalT, evalO, evalArgs, evalParts, getF, putF, afterRegion, assignV, boxOf, newBox, hasIdsP, keepF, ofVal, ofCell, plen, pesz, callV, builtinV, lenV, binV, unV, arith, shiftI, loadV, storeV, putV, indexAddrV, live, upd, pget, pset, psetA, pagg, retag, retagP, byteAV, freezeP, freezeV, joinTags, joinTag, tags, ids, scalar, cellsLen, eqV, convV, faV, fvV, shiftBy, shiftRo])
  have hlen0 : (List.replicate l.length (0 : Int)).length = l.length := by simp
  generalize List.replicate l.length (0 : Int) = o0 at hlen0 ⊢
  have hol := rOut_len l K 1 0 0 o0
  apply Run.seq (fr' := rcFr c l (rOut l K 1 0 0 o0).1 (rOut l K 1 0 0 o0).2.1 16 ++ [(24, .bool false)]) (H' := [nilI, rowI l.length (rOut l K 1 0 0 o0).2.2])
  · apply Run.seq (fr' := rcFr c l 0 0 1) (H' := [nilI, rowI l.length o0])
    · (refine ⟨0, ?_⟩; simp -implicitDefEqProofs [-getElem?_pos, List.getElem?_cons_zero, List.getElem?_cons_succ, exec, runOps, dstOk, wantedV, AM.step, evalT, evalO, evalArgs, evalParts, getF, putF, afterRegion, assignV, boxOf, newBox, hasIdsP, keepF, ofVal, ofCell, plen, pesz, callV, builtinV, lenV, binV, unV, arith, shiftI, loadV, storeV, putV, indexAddrV, live, upd, pget, pset, psetA, pagg, retag, retagP, byteAV, freezeP, freezeV, joinTags, joinTag, tags, ids, scalar, cellsLen, eqV, convV, faV, fvV, shiftBy, shiftRo, rcFr])
    · apply Run.block_exit
      refine Run.loop_rule (σ := Nat × Nat × Int × Int × List Int) (fun t => t.1 + t.2.1 = 16 ∧ t.2.2.2.2.length = l.length) (fun t => rcFr c l t.2.2.1 t.2.2.2.1 t.2.1) (fun t => [nilI, rowI l.length t.2.2.2.2])
        (fun t => ⟨.exit 0, rcFr c l (rOut l t.1 t.2.1 t.2.2.1 t.2.2.2.1 t.2.2.2.2).1 (rOut l t.1 t.2.1 t.2.2.1 t.2.2.2.1 t.2.2.2.2).2.1 16 ++ [(24, .bool false)], [nilI, rowI l.length (rOut l t.1 t.2.1 t.2.2.1 t.2.2.2.1 t.2.2.2.2).2.2]⟩) (fun t => t.1) ?_ (K, 1, 0, 0, o0) ⟨show K + 1 = 16 by omega, hlen0⟩
      rintro ⟨k, n, nx, la, o⟩ ⟨hk, ho⟩
      simp only at hk ho ⊢
      cases k with
      | zero =>
        right
        have : n = 16 := by omega
        subst this
        refine ⟨?_, by simp⟩
        apply Run.seq_out
        · (refine ⟨0, ?_⟩; simp -implicitDefEqProofs [-getElem?_pos, List.getElem?_cons_zero, List.getElem?_cons_succ, exec, runOps, dstOk, wantedV, AM.step, evalT, evalO, evalArgs, evalParts, getF, putF, afterRegion, assignV, boxOf, newBox, hasIdsP, keepF, ofVal, ofCell, plen, pesz, callV, builtinV, lenV, binV, unV, arith, shiftI, loadV, storeV, putV, indexAddrV, live, upd, pget, pset, psetA, pagg, retag, retagP, byteAV, freezeP, freezeV, joinTags, joinTag, tags, ids, scalar, cellsLen, eqV, convV, faV, fvV, shiftBy, shiftRo, rcFr, rOut])
        · simp
      | succ k =>
        left
        have hn15 : (n : Int) ≤ 15 := by omega
        refine ⟨(k, n + 1, (rIn n l 0 nx la o).1, (rIn n l 0 nx la o).2.1, (rIn n l 0 nx la o).2.2), ⟨show k + (n + 1) = 16 by omega, by rw [← ho]; exact rIn_len _ _ _ _ _ _⟩, ?_, by simp only [rOut], by simp⟩
        have en : IntKind.i64.wrap ((n : Int) + 1) = (n : Int) + 1 := wrap_i64 (by omega) (by omega)
        apply Run.seq
        · (refine ⟨0, ?_⟩; conv => lhs; simp -implicitDefEqProofs [-getElem?_pos, List.getElem?_cons_zero, List.getElem?_cons_succ, exec, runOps, dstOk, wantedV, AM.step, evalT, evalO, evalArgs, evalParts, getF, putF, afterRegion, assignV, boxOf, newBox, hasIdsP, keepF, ofVal, ofCell, plen, pesz, callV, builtinV, lenV, binV, unV, arith, shiftI, loadV, storeV, putV, indexAddrV, live, upd, pget, pset, psetA, pagg, retag, retagP, byteAV, freezeP, freezeV, joinTags, joinTag, tags, ids, scalar, cellsLen, eqV, convV, faV, fvV, shiftBy, shiftRo, hn15, rcFr])
        apply Run.seq (fr' := riFr c l (rIn n l 0 nx la o).1 (rIn n l 0 nx la o).2.1 n l.length ++ [(30, .bool false)]) (H' := [nilI, rowI l.length (rIn n l 0 nx la o).2.2])
        · apply Run.block
          · apply Run.seq (fr' := riFr c l nx la n 0) (H' := [nilI, rowI l.length o])
            · (refine ⟨0, ?_⟩; simp -implicitDefEqProofs [-getElem?_pos, List.getElem?_cons_zero, List.getElem?_cons_succ, exec, runOps, dstOk, wantedV, AM.step, evalT, evalO, evalArgs, evalParts, getF, putF, afterRegion, assignV, boxOf, newBox, hasIdsP, keepF, ofVal, ofCell, plen, pesz, callV, builtinV, lenV, binV, unV, arith, shiftI, loadV, storeV, putV, indexAddrV, live, upd, pget, pset, psetA, pagg, retag, retagP, byteAV, freezeP, freezeV, joinTags, joinTag, tags, ids, scalar, cellsLen, eqV, convV, faV, fvV, shiftBy, shiftRo, riFr])
            · apply Run.block_exit
              refine Run.loop_rule (σ := List Int × List Int × Int × Int × List Int) (fun t => t.1 ++ t.2.1 = l ∧ t.2.2.2.2.length = l.length) (fun t => riFr c l t.2.2.1 t.2.2.2.1 n t.1.length) (fun t => [nilI, rowI l.length t.2.2.2.2])
                (fun t => ⟨.exit 2, riFr c l (rIn n t.2.1 t.1.length t.2.2.1 t.2.2.2.1 t.2.2.2.2).1 (rIn n t.2.1 t.1.length t.2.2.1 t.2.2.2.1 t.2.2.2.2).2.1 n l.length ++ [(30, .bool false)], [nilI, rowI l.length (rIn n t.2.1 t.1.length t.2.2.1 t.2.2.2.1 t.2.2.2.2).2.2]⟩)
                (fun t => t.2.1.length) ?_ ([], l, nx, la, o) ⟨rfl, ho⟩
              rintro ⟨done, todo, nx, la, o⟩ ⟨hd, ho⟩
              simp only at hd ho ⊢
              cases todo with
              | nil =>
                right
                have hlen : done.length = l.length := by rw [← hd]; simp
                refine ⟨?_, by simp⟩
                simp only [rIn]
                apply Run.seq_out
                · (refine ⟨0, ?_⟩; simp -implicitDefEqProofs [-getElem?_pos, List.getElem?_cons_zero, List.getElem?_cons_succ, exec, runOps, dstOk, wantedV, AM.step, evalT, evalO, evalArgs, evalParts, getF, putF, afterRegion, assignV, boxOf, newBox, hasIdsP, keepF, ofVal, ofCell, plen, pesz, callV, builtinV, lenV, binV, unV, arith, shiftI, loadV, storeV, putV, indexAddrV, live, upd, pget, pset, psetA, pagg, retag, retagP, byteAV, freezeP, freezeV, joinTags, joinTag, tags, ids, scalar, cellsLen, eqV, convV, faV, fvV, shiftBy, shiftRo, riFr, hlen])
                · simp
              | cons x todo =>
                left
                have hlt : done.length < l.length := by rw [← hd]; simp
                have hget : l[done.length]? = some x := by rw [← hd]; simp
                have hltI : (done.length : Int) < (l.length : Int) := by omega
                have hlo : done.length < o.length := by omega
                have e : IntKind.i64.wrap ((done.length : Int) + 1) = (done.length : Int) + 1 := wrap_i64 (by omega) (by omega)
                by_cases hxn : x = (n : Int)
                · refine ⟨(done ++ [x], todo, rStep n nx la, n, o.set done.length (rStep n nx la)), ⟨by simpa using hd, by simpa using ho⟩, ?_, by simp [rIn, hxn], by simp⟩
                  apply Run.seq
                  · (refine ⟨0, ?_⟩; conv => lhs; simp -implicitDefEqProofs [-getElem?_pos, List.getElem?_cons_zero, List.getElem?_cons_succ, exec, runOps, dstOk, wantedV, AM.step, evalT, evalO, evalArgs, evalParts, getF, putF, afterRegion, assignV, boxOf, newBox, hasIdsP, keepF, ofVal, ofCell, plen, pesz, callV, builtinV, lenV, binV, unV, arith, shiftI, loadV, storeV, putV, indexAddrV, live, upd, pget, pset, psetA, pagg, retag, retagP, byteAV, freezeP, freezeV, joinTags, joinTag, tags, ids, scalar, cellsLen, eqV, convV, faV, fvV, shiftBy, shiftRo, hltI, riFr])
                  by_cases hla : 0 < la
                  · apply Run.seq (fr' := riFr c l (rStep n nx la) n n done.length) (H' := [nilI, rowI l.length (o.set done.length (rStep n nx la))])
                    · (refine ⟨0, ?_⟩; simp -implicitDefEqProofs [-getElem?_pos, List.getElem?_cons_zero, List.getElem?_cons_succ, exec, runOps, dstOk, wantedV, AM.step, evalT, evalO, evalArgs, evalParts, getF, putF, afterRegion, assignV, boxOf, newBox, hasIdsP, keepF, ofVal, ofCell, plen, pesz, callV, builtinV, lenV, binV, unV, arith, shiftI, loadV, storeV, putV, indexAddrV, live, upd, pget, pset, psetA, pagg, retag, retagP, byteAV, freezeP, freezeV, joinTags, joinTag, tags, ids, scalar, cellsLen, eqV, convV, faV, fvV, shiftBy, shiftRo, hget, hlt, hxn, hla, hu, rStep, riFr, rowI, nilI, hlo, IntKind.bits])
                    · (refine ⟨0, ?_⟩; simp -implicitDefEqProofs [-getElem?_pos, List.getElem?_cons_zero, List.getElem?_cons_succ, exec, runOps, dstOk, wantedV, AM.step, evalT, evalO, evalArgs, evalParts, getF, putF, afterRegion, assignV, boxOf, newBox, hasIdsP, keepF, ofVal, ofCell, plen, pesz, callV, builtinV, lenV, binV, unV, arith, shiftI, loadV, storeV, putV, indexAddrV, live, upd, pget, pset, psetA, pagg, retag, retagP, byteAV, freezeP, freezeV, joinTags, joinTag, tags, ids, scalar, cellsLen, eqV, convV, faV, fvV, shiftBy, shiftRo, e, riFr])
                  · apply Run.seq (fr' := riFr c l (rStep n nx la) n n done.length) (H' := [nilI, rowI l.length (o.set done.length (rStep n nx la))])
                    · (refine ⟨0, ?_⟩; simp -implicitDefEqProofs [-getElem?_pos, List.getElem?_cons_zero, List.getElem?_cons_succ, exec, runOps, dstOk, wantedV, AM.step, evalT, evalO, evalArgs, evalParts, getF, putF, afterRegion, assignV, boxOf, newBox, hasIdsP, keepF, ofVal, ofCell, plen, pesz, callV, builtinV, lenV, binV, unV, arith, shiftI, loadV, storeV, putV, indexAddrV, live, upd, pget, pset, psetA, pagg, retag, retagP, byteAV, freezeP, freezeV, joinTags, joinTag, tags, ids, scalar, cellsLen, eqV, convV, faV, fvV, shiftBy, shiftRo, hget, hlt, hxn, hla, hu, rStep, riFr, rowI, nilI, hlo, IntKind.bits])
                    · (refine ⟨0, ?_⟩; simp -implicitDefEqProofs [-getElem?_pos, List.getElem?_cons_zero, List.getElem?_cons_succ, exec, runOps, dstOk, wantedV, AM.step, evalT, evalO, evalArgs, evalParts, getF, putF, afterRegion, assignV, boxOf, newBox, hasIdsP, keepF, ofVal, ofCell, plen, pesz, callV, builtinV, lenV, binV, unV, arith, shiftI, loadV, storeV, putV, indexAddrV, live, upd, pget, pset, psetA, pagg, retag, retagP, byteAV, freezeP, freezeV, joinTags, joinTag, tags, ids, scalar, cellsLen, eqV, convV, faV, fvV, shiftBy, shiftRo, e, riFr])
                · have hxb : (x != (n : Int)) = true := by simpa using hxn
                  refine ⟨(done ++ [x], todo, nx, la, o), ⟨by simpa using hd, ho⟩, ?_, by simp [rIn, hxn], by simp⟩
                  apply Run.seq
                  · (refine ⟨0, ?_⟩; conv => lhs; simp -implicitDefEqProofs [-getElem?_pos, List.getElem?_cons_zero, List.getElem?_cons_succ, exec, runOps, dstOk, wantedV, AM.step, evalT, evalO, evalArgs, evalParts, getF, putF, afterRegion, assignV, boxOf, newBox, hasIdsP, keepF, ofVal, ofCell, plen, pesz, callV, builtinV, lenV, binV, unV, arith, shiftI, loadV, storeV, putV, indexAddrV, live, upd, pget, pset, psetA, pagg, retag, retagP, byteAV, freezeP, freezeV, joinTags, joinTag, tags, ids, scalar, cellsLen, eqV, convV, faV, fvV, shiftBy, shiftRo, hltI, riFr])
                  apply Run.seq (fr' := riFr c l nx la n done.length ++ [(38, .bool true)]) (H' := [nilI, rowI l.length o])
                  · (refine ⟨0, ?_⟩; simp -implicitDefEqProofs [-getElem?_pos, List.getElem?_cons_zero, List.getElem?_cons_succ, exec, runOps, dstOk, wantedV, AM.step, evalT, evalO, evalArgs, evalParts, getF, putF, afterRegion, assignV, boxOf, newBox, hasIdsP, keepF, ofVal, ofCell, plen, pesz, callV, builtinV, lenV, binV, unV, arith, shiftI, loadV, storeV, putV, indexAddrV, live, upd, pget, pset, psetA, pagg, retag, retagP, byteAV, freezeP, freezeV, joinTags, joinTag, tags, ids, scalar, cellsLen, eqV, convV, faV, fvV, shiftBy, shiftRo, hget, hlt, hxn, hxb, riFr, rowI, nilI])
                  · (refine ⟨0, ?_⟩; simp -implicitDefEqProofs [-getElem?_pos, List.getElem?_cons_zero, List.getElem?_cons_succ, exec, runOps, dstOk, wantedV, AM.step, evalT, evalO, evalArgs, evalParts, getF, putF, afterRegion, assignV, boxOf, newBox, hasIdsP, keepF, ofVal, ofCell, plen, pesz, callV, builtinV, lenV, binV, unV, arith, shiftI, loadV, storeV, putV, indexAddrV, live, upd, pget, pset, psetA, pagg, retag, retagP, byteAV, freezeP, freezeV, joinTags, joinTag, tags, ids, scalar, cellsLen, eqV, convV, faV, fvV, shiftBy, shiftRo, e, riFr])
          · simp
        · (refine ⟨0, ?_⟩; simp -implicitDefEqProofs [-getElem?_pos, List.getElem?_cons_zero, List.getElem?_cons_succ, exec, runOps, dstOk, wantedV, AM.step, evalT, evalO, evalArgs, evalParts, getF, putF, afterRegion, assignV, boxOf, newBox, hasIdsP, keepF, ofVal, ofCell, plen, pesz, callV, builtinV, lenV, binV, unV, arith, shiftI, loadV, storeV, putV, indexAddrV, live, upd, pget, pset, psetA, pagg, retag, retagP, byteAV, freezeP, freezeV, joinTags, joinTag, tags, ids, scalar, cellsLen, eqV, convV, faV, fvV, shiftBy, shiftRo, en, rcFr, riFr])
  · generalize (rOut l K 1 0 0 o0).1 = nx
    generalize (rOut l K 1 0 0 o0).2.1 = la
    generalize (rOut l K 1 0 0 o0).2.2 = o1 at hol ⊢
    rw [hlen0] at hol
    have hnl := rNeg_len l 0 o1
    apply Run.seq (fr' := rnFr c l l.length ++ [(56, .bool false)]) (H' := [nilI, rowI l.length (rNeg l 0 o1)])
    · apply Run.seq (fr' := rnFr c l 0) (H' := [nilI, rowI l.length o1])
      · (refine ⟨0, ?_⟩; simp -implicitDefEqProofs [-getElem?_pos, List.getElem?_cons_zero, List.getElem?_cons_succ, exec, runOps, dstOk, wantedV, AM.step, evalT, evalO, evalArgs, evalParts, getF, putF, afterRegion, assignV, boxOf, newBox, hasIdsP, keepF, ofVal, ofCell, plen, pesz, callV, builtinV, lenV, binV, unV, arith, shiftI, loadV, storeV, putV, indexAddrV, live, upd, pget, pset, psetA, pagg, retag, retagP, byteAV, freezeP, freezeV, joinTags, joinTag, tags, ids, scalar, cellsLen, eqV, convV, faV, fvV, shiftBy, shiftRo, rcFr, rnFr])
      · apply Run.block_exit
        refine Run.loop_rule (σ := List Int × List Int × List Int) (fun t => t.1 ++ t.2.1 = l ∧ t.2.2.length = l.length) (fun t => rnFr c l t.1.length) (fun t => [nilI, rowI l.length t.2.2])
          (fun t => ⟨.exit 4, rnFr c l l.length ++ [(56, .bool false)], [nilI, rowI l.length (rNeg t.2.1 t.1.length t.2.2)]⟩) (fun t => t.2.1.length) ?_ ([], l, o1) ⟨rfl, hol⟩
        rintro ⟨done, todo, o⟩ ⟨hd, ho⟩
        simp only at hd ho ⊢
        cases todo with
        | nil =>
          right
          have hlen : done.length = l.length := by rw [← hd]; simp
          refine ⟨?_, by simp⟩
          simp only [rNeg]
          apply Run.seq_out
          · (refine ⟨0, ?_⟩; simp -implicitDefEqProofs [-getElem?_pos, List.getElem?_cons_zero, List.getElem?_cons_succ, exec, runOps, dstOk, wantedV, AM.step, evalT, evalO, evalArgs, evalParts, getF, putF, afterRegion, assignV, boxOf, newBox, hasIdsP, keepF, ofVal, ofCell, plen, pesz, callV, builtinV, lenV, binV, unV, arith, shiftI, loadV, storeV, putV, indexAddrV, live, upd, pget, pset, psetA, pagg, retag, retagP, byteAV, freezeP, freezeV, joinTags, joinTag, tags, ids, scalar, cellsLen, eqV, convV, faV, fvV, shiftBy, shiftRo, rnFr, hlen])
          · simp
        | cons x todo =>
          left
          have hlt : done.length < l.length := by rw [← hd]; simp
          have hget : l[done.length]? = some x := by rw [← hd]; simp
          have hltI : (done.length : Int) < (l.length : Int) := by omega
          have hlo : done.length < o.length := by omega
          have e : IntKind.i64.wrap ((done.length : Int) + 1) = (done.length : Int) + 1 := wrap_i64 (by omega) (by omega)
          by_cases hx0 : x = 0
          · refine ⟨(done ++ [x], todo, o.set done.length (-1)), ⟨by simpa using hd, by simpa using ho⟩, ?_, by simp [rNeg, hx0], by simp⟩
            apply Run.seq
            · (refine ⟨0, ?_⟩; conv => lhs; simp -implicitDefEqProofs [-getElem?_pos, List.getElem?_cons_zero, List.getElem?_cons_succ, exec, runOps, dstOk, wantedV, AM.step, evalT, evalO, evalArgs, evalParts, getF, putF, afterRegion, assignV, boxOf, newBox, hasIdsP, keepF, ofVal, ofCell, plen, pesz, callV, builtinV, lenV, binV, unV, arith, shiftI, loadV, storeV, putV, indexAddrV, live, upd, pget, pset, psetA, pagg, retag, retagP, byteAV, freezeP, freezeV, joinTags, joinTag, tags, ids, scalar, cellsLen, eqV, convV, faV, fvV, shiftBy, shiftRo, hltI, rnFr])
            apply Run.seq (fr' := rnFr c l done.length) (H' := [nilI, rowI l.length (o.set done.length (-1))])
            · (refine ⟨0, ?_⟩; simp -implicitDefEqProofs [-getElem?_pos, List.getElem?_cons_zero, List.getElem?_cons_succ, exec, runOps, dstOk, wantedV, AM.step, evalT, evalO, evalArgs, evalParts, getF, putF, afterRegion, assignV, boxOf, newBox, hasIdsP, keepF, ofVal, ofCell, plen, pesz, callV, builtinV, lenV, binV, unV, arith, shiftI, loadV, storeV, putV, indexAddrV, live, upd, pget, pset, psetA, pagg, retag, retagP, byteAV, freezeP, freezeV, joinTags, joinTag, tags, ids, scalar, cellsLen, eqV, convV, faV, fvV, shiftBy, shiftRo, hget, hlt, hx0, rnFr, rowI, nilI, hlo])
            · (refine ⟨0, ?_⟩; simp -implicitDefEqProofs [-getElem?_pos, List.getElem?_cons_zero, List.getElem?_cons_succ, exec, runOps, dstOk, wantedV, AM.step, evalT, evalO, evalArgs, evalParts, getF, putF, afterRegion, assignV, boxOf, newBox, hasIdsP, keepF, ofVal, ofCell, plen, pesz, callV, builtinV, lenV, binV, unV, arith, shiftI, loadV, storeV, putV, indexAddrV, live, upd, pget, pset, psetA, pagg, retag, retagP, byteAV, freezeP, freezeV, joinTags, joinTag, tags, ids, scalar, cellsLen, eqV, convV, faV, fvV, shiftBy, shiftRo, e, rnFr])
          · refine ⟨(done ++ [x], todo, o), ⟨by simpa using hd, ho⟩, ?_, by simp [rNeg, hx0], by simp⟩
            apply Run.seq
            · (refine ⟨0, ?_⟩; conv => lhs; simp -implicitDefEqProofs [-getElem?_pos, List.getElem?_cons_zero, List.getElem?_cons_succ, exec, runOps, dstOk, wantedV, AM.step, evalT, evalO, evalArgs, evalParts, getF, putF, afterRegion, assignV, boxOf, newBox, hasIdsP, keepF, ofVal, ofCell, plen, pesz, callV, builtinV, lenV, binV, unV, arith, shiftI, loadV, storeV, putV, indexAddrV, live, upd, pget, pset, psetA, pagg, retag, retagP, byteAV, freezeP, freezeV, joinTags, joinTag, tags, ids, scalar, cellsLen, eqV, convV, faV, fvV, shiftBy, shiftRo, hltI, rnFr])
            apply Run.seq (fr' := rnFr c l done.length ++ [(63, .bool false)]) (H' := [nilI, rowI l.length o])
            · (refine ⟨0, ?_⟩; simp -implicitDefEqProofs [-getElem?_pos, List.getElem?_cons_zero, List.getElem?_cons_succ, exec, runOps, dstOk, wantedV, AM.step, evalT, evalO, evalArgs, evalParts, getF, putF, afterRegion, assignV, boxOf, newBox, hasIdsP, keepF, ofVal, ofCell, plen, pesz, callV, builtinV, lenV, binV, unV, arith, shiftI, loadV, storeV, putV, indexAddrV, live, upd, pget, pset, psetA, pagg, retag, retagP, byteAV, freezeP, freezeV, joinTags, joinTag, tags, ids, scalar, cellsLen, eqV, convV, faV, fvV, shiftBy, shiftRo, hget, hlt, hx0, rnFr, rowI, nilI])
            · (refine ⟨0, ?_⟩; simp -implicitDefEqProofs [-getElem?_pos, List.getElem?_cons_zero, List.getElem?_cons_succ, exec, runOps, dstOk, wantedV, AM.step, evalT, evalO, evalArgs, evalParts, getF, putF, afterRegion, assignV, boxOf, newBox, hasIdsP, keepF, ofVal, ofCell, plen, pesz, callV, builtinV, lenV, binV, unV, arith, shiftI, loadV, storeV, putV, indexAddrV, live, upd, pget, pset, psetA, pagg, retag, retagP, byteAV, freezeP, freezeV, joinTags, joinTag, tags, ids, scalar, cellsLen, eqV, convV, faV, fvV, shiftBy, shiftRo, e, rnFr])
    · generalize rNeg l 0 o1 = o2
      refine ⟨0, ?_⟩
      simp -implicitDefEqProofs [-getElem?_pos, List.getElem?_cons_zero, List.getElem?_cons_succ, exec, runOps, dstOk, wantedV, AM.step, evalT, evalO, evalArgs, evalParts, getF, putF, afterRegion, assignV, boxOf, newBox, hasIdsP, keepF, ofVal, ofCell, plen, pesz, callV, builtinV, lenV, binV, unV, arith, shiftI, loadV, storeV, putV, indexAddrV, live, upd, pget, pset, psetA, pagg, retag, retagP, byteAV, freezeP, freezeV, joinTags, joinTag, tags, ids, scalar, cellsLen, eqV, convV, faV, fvV, shiftBy, shiftRo, rnFr]

end Go.Proofs.Ytikleidhmekgnaa
