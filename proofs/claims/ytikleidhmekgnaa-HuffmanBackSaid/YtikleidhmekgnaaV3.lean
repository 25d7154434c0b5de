/- Walks: the law HuffmanBack. -/
import Derived.Test.YtikleidhmekgnaaV2
namespace Go.Proofs.Ytikleidhmekgnaa
open Go.AM
set_option linter.unusedSimpArgs false
set_option linter.unusedVariables false

theorem reads_le {l : List Int} (hf : fine l = true) {B : List UInt8} : ∀ (sy : List Int) (a z : Nat), reads l B sy a z → z ≤ a + 15 * sy.length
  | [], a, z, h => by have : a = z := h; simp; omega
  | s :: r, a, z, h => by
    obtain ⟨h1, h2, h3, h4, h5⟩ := h
    have := reads_le hf r _ z h5
    have := fine_at hf (show s.toNat < l.length by omega)
    simp only [List.length_cons]
    omega

theorem rreadR_nat {l : List Int} (he : (rcheckR l).2 = 0) (b : List UInt8) (a : Nat) : rreadR l b (a : Int) = decR l (rcodesR l) b a := by
  unfold rreadR
  rw [if_pos he, if_neg (by omega), Int.toNat_natCast]

theorem E_write {H : AM.Heap} {a a2 : AV} {l sy : List Int} (h : payOf H a = some (.pi .i64 l)) (h2 : payOf H a2 = some (.pi .i64 sy)) (hl : l.length < 9223372036854775808) (hs : sy.length ≤ 400) :
    evT X 11 [a, a2] H = some (.tup [.sl H.length 0 (rwriteR l sy).1.length 0, .int .i64 (rwriteR l sy).2.1, .int .i64 (rwriteR l sy).2.2], H ++ [frB (rwriteR l sy).1]) := by
  have := evT_eq (T6_below _ _ _ _ (T6_write h h2 hl hs))
  rw [write_same] at this
  exact this

def bkFr (c c2 : Nat) (l sy : List Int) (B : List UInt8) (K a i : Nat) : AM.Frame :=
  [(0, .ro c (.pi .i64 l) 1), (1, .ro c2 (.pi .i64 sy) 2), (5, .sl 0 0 B.length 0), (6, .int .i64 (K : Nat)), (11, .int .i64 (a : Nat)), (12, .int .i64 (i : Nat))]

set_option maxRecDepth 100000 in
theorem back_code (c c2 : Nat) (l sy : List Int) : ∃ code, Try.f7.body = some code ∧ ∃ H,
    Run X (evT X) 7 0 code [(0, .ro c (.pi .i64 l) 1), (1, .ro c2 (.pi .i64 sy) 2)] [] ⟨.ret, [(4, .bool true)], H⟩ := by
  refine ⟨_, rfl, ?_⟩
  have hL := E_lives
  by_cases h1 : 400 < (l.length : Int)
  · refine ⟨[], 0, ?_⟩
    simp -implicitDefEqProofs [-getElem?_pos, List.getElem?_cons_zero, List.getElem?_cons_succ, exec, runOps, dstOk, wantedV, AM.step, evalT, evalO, evalArgs, evalParts, getF, putF, afterRegion, assignV, boxOf, newBox, hasIdsP, keepF, ofVal, ofCell, plen, pesz, callV, builtinV, lenV, binV, unV, arith, shiftI, loadV, storeV, putV, indexAddrV, live, upd, pget, pset, psetA, pagg, retag, retagP, byteAV, freezeP, freezeV, joinTags, joinTag, tags, ids, scalar, cellsLen, eqV, convV, faV, fvV, shiftBy, shiftRo, hL, h1]
  by_cases h2 : 400 < (sy.length : Int)
  · refine ⟨[], 0, ?_⟩
    simp -implicitDefEqProofs [-getElem?_pos, List.getElem?_cons_zero, List.getElem?_cons_succ, exec, runOps, dstOk, wantedV, AM.step, evalT, evalO, evalArgs, evalParts, getF, putF, afterRegion, assignV, boxOf, newBox, hasIdsP, keepF, ofVal, ofCell, plen, pesz, callV, builtinV, lenV, binV, unV, arith, shiftI, loadV, storeV, putV, indexAddrV, live, upd, pget, pset, psetA, pagg, retag, retagP, byteAV, freezeP, freezeV, joinTags, joinTag, tags, ids, scalar, cellsLen, eqV, convV, faV, fvV, shiftBy, shiftRo, hL, h1, h2]
  have hW := E_write (H := []) (a := .ro c (.pi .i64 l) 1) (a2 := .ro c2 (.pi .i64 sy) 2) (l := l) (sy := sy) rfl rfl (by omega) (by omega)
  simp only [List.nil_append, List.length_nil] at hW
  by_cases hw : (rwriteR l sy).2.2 = 0
  · obtain ⟨he, K, hK, hlen, hre, hall⟩ := back_plain hw
    obtain ⟨hl, hf⟩ := rcheck_fine he
    have hKb := reads_le hf sy 0 K hre
    generalize rwriteR l sy = r at *
    rw [hw, hK] at hW
    generalize r.1 = B at *
    have hA := E_all (H := [frB B]) (a := .ro c (.pi .i64 l) 1) (a2 := .sl 0 0 B.length 0) (l := l) (b := B) (x := (sy.length : Nat)) rfl (by simp [payOf, live, frB, psub]) (by omega) (by omega) (by omega)
    rw [hall] at hA
    have hS := E_sameI (H := [frB B, alO sy]) (a := .sl 1 0 sy.length 0) (a2 := .ro c2 (.pi .i64 sy) 2) (alO_pay sy rfl) rfl (by omega)
    rw [beq_self_eq_true] at hS
    have hR := fun a : Nat => fun (ha : a < 9223372036854775808) => E_read (H := [frB B, alO sy]) (a := .ro c (.pi .i64 l) 1) (a2 := .sl 0 0 B.length 0) (l := l) (b := B) (x := (a : Int)) rfl (by simp [payOf, live, frB, psub]) (by omega) (by omega) (by omega)
    refine ⟨[frB B, alO sy], ?_⟩
    obtain ⟨ob, ho, hog⟩ : ∃ ob : AM.Obj, frB B = some ob ∧ ob.g = 0 := ⟨_, rfl, rfl⟩
    simp only [ho] at hW hA hS hR ⊢
    clear ho
    generalize alO sy = o2 at *
    simp only [List.nil_append, List.length_nil, List.length_cons, List.cons_append, Nat.zero_add, Nat.reduceAdd] at hA
    have w7 : IntKind.i64.wrap ((K : Int) + 7) = ((K + 7 : Nat) : Int) := by rw [wrap_i64 (by omega) (by omega)]; omega
    have d7 : (((K + 7 : Nat) : Int)).tdiv 8 = ((B.length : Nat) : Int) := by rw [Int.tdiv_eq_ediv_of_nonneg (by omega)]; omega
    have d8 : ((K + 7 : Nat) : Int) / 8 = ((B.length : Nat) : Int) := by omega
    have w8 : IntKind.i64.wrap ((B.length : Nat) : Int) = ((B.length : Nat) : Int) := wrap_i64 (by omega) (by omega)
    generalize hK7 : K + 7 = K7 at *
    apply Run.seq
    · (refine ⟨0, ?_⟩; conv => lhs; simp -implicitDefEqProofs [-getElem?_pos, List.getElem?_cons_zero, List.getElem?_cons_succ, exec, runOps, dstOk, wantedV, AM.step, evalT, evalO, evalArgs, evalParts, getF, putF, afterRegion, assignV, boxOf, newBox, hasIdsP, keepF, ofVal, ofCell, plen, pesz, callV, builtinV, lenV, binV, unV, arith, shiftI, loadV, storeV, putV, indexAddrV, live, upd, pget, pset, psetA, pagg, retag, retagP, byteAV, freezeP, freezeV, joinTags, joinTag, tags, ids, scalar, cellsLen, eqV, convV, faV, fvV, shiftBy, shiftRo])
    apply Run.seq
    · (refine ⟨0, ?_⟩; conv => lhs; simp -implicitDefEqProofs [-getElem?_pos, List.getElem?_cons_zero, List.getElem?_cons_succ, exec, runOps, dstOk, wantedV, AM.step, evalT, evalO, evalArgs, evalParts, getF, putF, afterRegion, assignV, boxOf, newBox, hasIdsP, keepF, ofVal, ofCell, plen, pesz, callV, builtinV, lenV, binV, unV, arith, shiftI, loadV, storeV, putV, indexAddrV, live, upd, pget, pset, psetA, pagg, retag, retagP, byteAV, freezeP, freezeV, joinTags, joinTag, tags, ids, scalar, cellsLen, eqV, convV, faV, fvV, shiftBy, shiftRo, hL])
    apply Run.seq
    · (refine ⟨0, ?_⟩; conv => lhs; simp -implicitDefEqProofs [-getElem?_pos, List.getElem?_cons_zero, List.getElem?_cons_succ, exec, runOps, dstOk, wantedV, AM.step, evalT, evalO, evalArgs, evalParts, getF, putF, afterRegion, assignV, boxOf, newBox, hasIdsP, keepF, ofVal, ofCell, plen, pesz, callV, builtinV, lenV, binV, unV, arith, shiftI, loadV, storeV, putV, indexAddrV, live, upd, pget, pset, psetA, pagg, retag, retagP, byteAV, freezeP, freezeV, joinTags, joinTag, tags, ids, scalar, cellsLen, eqV, convV, faV, fvV, shiftBy, shiftRo, h1, h2])
    apply Run.seq
    · (refine ⟨0, ?_⟩; conv => lhs; simp -implicitDefEqProofs [-getElem?_pos, List.getElem?_cons_zero, List.getElem?_cons_succ, exec, runOps, dstOk, wantedV, AM.step, evalT, evalO, evalArgs, evalParts, getF, putF, afterRegion, assignV, boxOf, newBox, hasIdsP, keepF, ofVal, ofCell, plen, pesz, callV, builtinV, lenV, binV, unV, arith, shiftI, loadV, storeV, putV, indexAddrV, live, upd, pget, pset, psetA, pagg, retag, retagP, byteAV, freezeP, freezeV, joinTags, joinTag, tags, ids, scalar, cellsLen, eqV, convV, faV, fvV, shiftBy, shiftRo, hW])
    apply Run.seq
    · (refine ⟨0, ?_⟩; conv => lhs; simp -implicitDefEqProofs [-getElem?_pos, List.getElem?_cons_zero, List.getElem?_cons_succ, exec, runOps, dstOk, wantedV, AM.step, evalT, evalO, evalArgs, evalParts, getF, putF, afterRegion, assignV, boxOf, newBox, hasIdsP, keepF, ofVal, ofCell, plen, pesz, callV, builtinV, lenV, binV, unV, arith, shiftI, loadV, storeV, putV, indexAddrV, live, upd, pget, pset, psetA, pagg, retag, retagP, byteAV, freezeP, freezeV, joinTags, joinTag, tags, ids, scalar, cellsLen, eqV, convV, faV, fvV, shiftBy, shiftRo])
    apply Run.seq
    · (refine ⟨0, ?_⟩; conv => lhs; simp -implicitDefEqProofs [-getElem?_pos, List.getElem?_cons_zero, List.getElem?_cons_succ, exec, runOps, dstOk, wantedV, AM.step, evalT, evalO, evalArgs, evalParts, getF, putF, afterRegion, assignV, boxOf, newBox, hasIdsP, keepF, ofVal, ofCell, plen, pesz, callV, builtinV, lenV, binV, unV, arith, shiftI, loadV, storeV, putV, indexAddrV, live, upd, pget, pset, psetA, pagg, retag, retagP, byteAV, freezeP, freezeV, joinTags, joinTag, tags, ids, scalar, cellsLen, eqV, convV, faV, fvV, shiftBy, shiftRo, hA])
    apply Run.seq
    · (refine ⟨0, ?_⟩; conv => lhs; simp -implicitDefEqProofs [-getElem?_pos, List.getElem?_cons_zero, List.getElem?_cons_succ, exec, runOps, dstOk, wantedV, AM.step, evalT, evalO, evalArgs, evalParts, getF, putF, afterRegion, assignV, boxOf, newBox, hasIdsP, keepF, ofVal, ofCell, plen, pesz, callV, builtinV, lenV, binV, unV, arith, shiftI, loadV, storeV, putV, indexAddrV, live, upd, pget, pset, psetA, pagg, retag, retagP, byteAV, freezeP, freezeV, joinTags, joinTag, tags, ids, scalar, cellsLen, eqV, convV, faV, fvV, shiftBy, shiftRo, hS, w7, d7, d8, w8, hog])
    apply Run.seq
    · (refine ⟨0, ?_⟩; conv => lhs; simp -implicitDefEqProofs [-getElem?_pos, List.getElem?_cons_zero, List.getElem?_cons_succ, exec, runOps, dstOk, wantedV, AM.step, evalT, evalO, evalArgs, evalParts, getF, putF, afterRegion, assignV, boxOf, newBox, hasIdsP, keepF, ofVal, ofCell, plen, pesz, callV, builtinV, lenV, binV, unV, arith, shiftI, loadV, storeV, putV, indexAddrV, live, upd, pget, pset, psetA, pagg, retag, retagP, byteAV, freezeP, freezeV, joinTags, joinTag, tags, ids, scalar, cellsLen, eqV, convV, faV, fvV, shiftBy, shiftRo])
    apply Run.seq (fr' := bkFr c c2 l sy B K K sy.length ++ [(75, .bool false)]) (H' := [some ob, o2])
    · apply Run.seq (fr' := bkFr c c2 l sy B K 0 0) (H' := [some ob, o2])
      · (refine ⟨0, ?_⟩; simp -implicitDefEqProofs [-getElem?_pos, List.getElem?_cons_zero, List.getElem?_cons_succ, exec, runOps, dstOk, wantedV, AM.step, evalT, evalO, evalArgs, evalParts, getF, putF, afterRegion, assignV, boxOf, newBox, hasIdsP, keepF, ofVal, ofCell, plen, pesz, callV, builtinV, lenV, binV, unV, arith, shiftI, loadV, storeV, putV, indexAddrV, live, upd, pget, pset, psetA, pagg, retag, retagP, byteAV, freezeP, freezeV, joinTags, joinTag, tags, ids, scalar, cellsLen, eqV, convV, faV, fvV, shiftBy, shiftRo, bkFr])
      · apply Run.block_exit
        refine Run.loop_rule (σ := List Int × List Int × Nat) (fun t => t.1 ++ t.2.1 = sy ∧ reads l B t.2.1 t.2.2 K ∧ t.2.2 ≤ 15 * t.1.length) (fun t => bkFr c c2 l sy B K t.2.2 t.1.length) (fun _ => [some ob, o2]) (fun _ => ⟨.exit 0, bkFr c c2 l sy B K K sy.length ++ [(75, .bool false)], [some ob, o2]⟩) (fun t => t.2.1.length) ?_ ([], sy, 0) ⟨rfl, hre, by simp⟩
        rintro ⟨done, todo, a⟩ ⟨hd, hr, ha⟩
        simp only at hd hr ha ⊢
        cases todo with
        | nil =>
          right
          have hlen2 : done.length = sy.length := by rw [← hd]; simp
          have haK : a = K := hr
          refine ⟨?_, by simp⟩
          subst haK
          (refine ⟨0, ?_⟩; simp -implicitDefEqProofs [-getElem?_pos, List.getElem?_cons_zero, List.getElem?_cons_succ, exec, runOps, dstOk, wantedV, AM.step, evalT, evalO, evalArgs, evalParts, getF, putF, afterRegion, assignV, boxOf, newBox, hasIdsP, keepF, ofVal, ofCell, plen, pesz, callV, builtinV, lenV, binV, unV, arith, shiftI, loadV, storeV, putV, indexAddrV, live, upd, pget, pset, psetA, pagg, retag, retagP, byteAV, freezeP, freezeV, joinTags, joinTag, tags, ids, scalar, cellsLen, eqV, convV, faV, fvV, shiftBy, shiftRo, bkFr, hlen2])
        | cons s todo =>
          left
          have hlt : done.length < sy.length := by rw [← hd]; simp
          have hltI : (done.length : Int) < (sy.length : Int) := by omega
          have hget : sy[done.length]? = some s := by rw [← hd]; simp
          obtain ⟨q1, q2, q3, q4, q5⟩ := hr
          have hp : s.toNat < l.length := by omega
          have hm := fine_at hf hp
          obtain ⟨L, hL2⟩ : ∃ L : Nat, l.getD s.toNat 0 = (L : Int) := ⟨(l.getD s.toNat 0).toNat, by omega⟩
          have hgl : l[s.toNat]? = some (L : Int) := by
            rw [List.getElem?_eq_getElem hp, ← hL2, List.getD_eq_getElem?_getD, List.getElem?_eq_getElem hp]; rfl
          have hRa := hR a (by omega)
          rw [rreadR_nat he, q3, hL2] at hRa
          unfold t3 at hRa
          rw [hL2, Int.toNat_natCast] at q5
          have hle : a + L ≤ 6000 := by omega
          refine ⟨(done ++ [s], todo, a + L), ⟨by simpa using hd, q5, by simp; omega⟩, ?_, trivial, by simp⟩
          have w1 : IntKind.i64.wrap ((a : Int) + (L : Int)) = ((a + L : Nat) : Int) := by rw [wrap_i64 (by omega) (by omega)]; omega
          have w2 : IntKind.i64.wrap ((done.length : Int) + 1) = ((done.length + 1 : Nat) : Int) := by rw [wrap_i64 (by omega) (by omega)]; omega
          generalize hdl : a + L = aL at *
          (refine ⟨0, ?_⟩; simp -implicitDefEqProofs [-getElem?_pos, List.getElem?_cons_zero, List.getElem?_cons_succ, exec, runOps, dstOk, wantedV, AM.step, evalT, evalO, evalArgs, evalParts, getF, putF, afterRegion, assignV, boxOf, newBox, hasIdsP, keepF, ofVal, ofCell, plen, pesz, callV, builtinV, lenV, binV, unV, arith, shiftI, loadV, storeV, putV, indexAddrV, live, upd, pget, pset, psetA, pagg, retag, retagP, byteAV, freezeP, freezeV, joinTags, joinTag, tags, ids, scalar, cellsLen, eqV, convV, faV, fvV, shiftBy, shiftRo, bkFr, hltI, hRa, hget, hlt, q1, q2, hp, hgl, w1, w2])
    refine ⟨0, ?_⟩
    simp -implicitDefEqProofs [-getElem?_pos, List.getElem?_cons_zero, List.getElem?_cons_succ, exec, runOps, dstOk, wantedV, AM.step, evalT, evalO, evalArgs, evalParts, getF, putF, afterRegion, assignV, boxOf, newBox, hasIdsP, keepF, ofVal, ofCell, plen, pesz, callV, builtinV, lenV, binV, unV, arith, shiftI, loadV, storeV, putV, indexAddrV, live, upd, pget, pset, psetA, pagg, retag, retagP, byteAV, freezeP, freezeV, joinTags, joinTag, tags, ids, scalar, cellsLen, eqV, convV, faV, fvV, shiftBy, shiftRo, bkFr]
  · obtain ⟨e1, e2⟩ := write_bad_nil hw
    have hwb : ((rwriteR l sy).2.2 != 0) = true := by simpa using hw
    rw [e1, e2] at hW
    refine ⟨[frB []], 0, ?_⟩
    simp -implicitDefEqProofs [-getElem?_pos, List.getElem?_cons_zero, List.getElem?_cons_succ, exec, runOps, dstOk, wantedV, AM.step, evalT, evalO, evalArgs, evalParts, getF, putF, afterRegion, assignV, boxOf, newBox, hasIdsP, keepF, ofVal, ofCell, plen, pesz, callV, builtinV, lenV, binV, unV, arith, shiftI, loadV, storeV, putV, indexAddrV, live, upd, pget, pset, psetA, pagg, retag, retagP, byteAV, freezeP, freezeV, joinTags, joinTag, tags, ids, scalar, cellsLen, eqV, convV, faV, fvV, shiftBy, shiftRo, hL, h1, h2, hW, hw, hwb, frB]

theorem back_ev (c c2 : Nat) (l sy : List Int) : Ev1 X 7 [.ro c (.pi .i64 l) 1, .ro c2 (.pi .i64 sy) 1] [] (.bool true, []) := by
  obtain ⟨code, hb, H, hr⟩ := back_code c c2 l sy
  exact Ev1.plain (args := [.ro c (.pi .i64 l) 1, .ro c2 (.pi .i64 sy) 1]) (l := [.bool true]) (evT_below X) Try.func7 hb rfl rfl (by simp [gtag]) hr (.inr rfl) rfl rfl rfl

end Go.Proofs.Ytikleidhmekgnaa
