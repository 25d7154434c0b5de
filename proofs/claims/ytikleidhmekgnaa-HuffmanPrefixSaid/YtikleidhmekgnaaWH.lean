/- Walks: two slices of ints the same; a bit. -/
import Derived.Test.YtikleidhmekgnaaWG
namespace Go.Proofs.Ytikleidhmekgnaa
open Go.AM
set_option linter.unusedSimpArgs false
set_option linter.unusedVariables false

def saFr (c c2 : Nat) (a b : List Int) (i : Nat) : AM.Frame := [(0, .ro c (.pi .i64 a) 1), (1, .ro c2 (.pi .i64 b) 2), (5, .int .i64 (i : Nat))]

def saO (c c2 : Nat) (a b ta tb : List Int) : AM.Out :=
  if ta = tb then ⟨.exit 0, saFr c c2 a b a.length ++ [(14, .bool false)], []⟩ else ⟨.ret, [(4, .bool false)], []⟩

set_option maxRecDepth 100000 in
theorem sameI_code (T : Cf) (c c2 : Nat) (a b : List Int) (h63 : a.length < 9223372036854775808) : ∃ code, Try.f17.body = some code ∧
    Run X T 17 0 code [(0, .ro c (.pi .i64 a) 1), (1, .ro c2 (.pi .i64 b) 2)] [] ⟨.ret, [(4, .bool (a == b))], []⟩ := by
  refine ⟨_, rfl, ?_⟩
  by_cases hl : a.length = b.length
  · have hlI : ((a.length : Int) != (b.length : Int)) = false := by simp [hl]
    apply Run.seq
    · (refine ⟨0, ?_⟩; conv => lhs; simp -implicitDefEqProofs [-getElem?_pos, List.getElem?_cons_zero, List.getElem?_cons_succ, exec, runOps, dstOk, wantedV, AM.step, evalT, evalO, evalArgs, evalParts, getF, putF, afterRegion, assignV, boxOf, newBox, hasIdsP, keepF, ofVal, ofCell, plen, pesz, callV, builtinV, lenV, binV, unV, arith, shiftI, loadV, storeV, putV, indexAddrV, live, upd, pget, pset, psetA, pagg, retag, retagP, byteAV, freezeP, freezeV, joinTags, joinTag, tags, ids, scalar, cellsLen, eqV, convV, faV, fvV, shiftBy, shiftRo])
    apply Run.seq
    · (refine ⟨0, ?_⟩; conv => lhs; simp -implicitDefEqProofs [-getElem?_pos, List.getElem?_cons_zero, List.getElem?_cons_succ, exec, runOps, dstOk, wantedV, AM.step, evalT, evalO, evalArgs, evalParts, getF, putF, afterRegion, assignV, boxOf, newBox, hasIdsP, keepF, ofVal, ofCell, plen, pesz, callV, builtinV, lenV, binV, unV, arith, shiftI, loadV, storeV, putV, indexAddrV, live, upd, pget, pset, psetA, pagg, retag, retagP, byteAV, freezeP, freezeV, joinTags, joinTag, tags, ids, scalar, cellsLen, eqV, convV, faV, fvV, shiftBy, shiftRo, hlI, hl])
    apply Run.seq' (o := blockOut 0 (saO c c2 a b a b))
    · apply Run.seq (fr' := saFr c c2 a b 0) (H' := [])
      · (refine ⟨0, ?_⟩; simp -implicitDefEqProofs [-getElem?_pos, List.getElem?_cons_zero, List.getElem?_cons_succ, exec, runOps, dstOk, wantedV, AM.step, evalT, evalO, evalArgs, evalParts, getF, putF, afterRegion, assignV, boxOf, newBox, hasIdsP, keepF, ofVal, ofCell, plen, pesz, callV, builtinV, lenV, binV, unV, arith, shiftI, loadV, storeV, putV, indexAddrV, live, upd, pget, pset, psetA, pagg, retag, retagP, byteAV, freezeP, freezeV, joinTags, joinTag, tags, ids, scalar, cellsLen, eqV, convV, faV, fvV, shiftBy, shiftRo, saFr])
      · apply Run.block'
        refine Run.loop_rule (σ := List Int × List Int × List Int) (fun t => t.1 ++ t.2.1 = a ∧ t.1 ++ t.2.2 = b) (fun t => saFr c c2 a b t.1.length) (fun _ => []) (fun t => saO c c2 a b t.2.1 t.2.2) (fun t => t.2.1.length) ?_ ([], a, b) ⟨rfl, rfl⟩
        rintro ⟨done, ta, tb⟩ ⟨hd, hd2⟩
        simp only at hd hd2 ⊢
        cases ta with
        | nil =>
          right
          have hlen : done.length = a.length := by rw [← hd]; simp
          have htb : tb = [] := by
            have : (done ++ tb).length = b.length := by rw [hd2]
            simp only [List.length_append] at this
            exact List.length_eq_zero_iff.1 (by omega)
          subst htb
          refine ⟨?_, by simp [saO]⟩
          simp only [saO, if_true]
          apply Run.seq_out
          · (refine ⟨0, ?_⟩; simp -implicitDefEqProofs [-getElem?_pos, List.getElem?_cons_zero, List.getElem?_cons_succ, exec, runOps, dstOk, wantedV, AM.step, evalT, evalO, evalArgs, evalParts, getF, putF, afterRegion, assignV, boxOf, newBox, hasIdsP, keepF, ofVal, ofCell, plen, pesz, callV, builtinV, lenV, binV, unV, arith, shiftI, loadV, storeV, putV, indexAddrV, live, upd, pget, pset, psetA, pagg, retag, retagP, byteAV, freezeP, freezeV, joinTags, joinTag, tags, ids, scalar, cellsLen, eqV, convV, faV, fvV, shiftBy, shiftRo, hlen, saFr])
          · simp
        | cons x ta =>
          have hlt : done.length < a.length := by rw [← hd]; simp
          have hltI : (done.length : Int) < (a.length : Int) := by omega
          cases tb with
          | nil =>
            have : (done ++ []).length = b.length := by rw [hd2]
            simp at this; omega
          | cons y tb =>
            have hga : a[done.length]? = some x := by rw [← hd]; simp
            have hgb : b[done.length]? = some y := by rw [← hd2]; simp
            have hlt2 : done.length < b.length := by omega
            have e : IntKind.i64.wrap ((done.length : Int) + 1) = (done.length : Int) + 1 := wrap_i64 (by omega) (by omega)
            by_cases hxy : x = y
            · left
              subst hxy
              refine ⟨(done ++ [x], ta, tb), ⟨by simpa using hd, by simpa using hd2⟩, ?_, by simp [saO], by simp⟩
              apply Run.seq
              · (refine ⟨0, ?_⟩; conv => lhs; simp -implicitDefEqProofs [-getElem?_pos, List.getElem?_cons_zero, List.getElem?_cons_succ, exec, runOps, dstOk, wantedV, AM.step, evalT, evalO, evalArgs, evalParts, getF, putF, afterRegion, assignV, boxOf, newBox, hasIdsP, keepF, ofVal, ofCell, plen, pesz, callV, builtinV, lenV, binV, unV, arith, shiftI, loadV, storeV, putV, indexAddrV, live, upd, pget, pset, psetA, pagg, retag, retagP, byteAV, freezeP, freezeV, joinTags, joinTag, tags, ids, scalar, cellsLen, eqV, convV, faV, fvV, shiftBy, shiftRo, hltI, saFr])
              apply Run.seq
              · (refine ⟨0, ?_⟩; conv => lhs; simp -implicitDefEqProofs [-getElem?_pos, List.getElem?_cons_zero, List.getElem?_cons_succ, exec, runOps, dstOk, wantedV, AM.step, evalT, evalO, evalArgs, evalParts, getF, putF, afterRegion, assignV, boxOf, newBox, hasIdsP, keepF, ofVal, ofCell, plen, pesz, callV, builtinV, lenV, binV, unV, arith, shiftI, loadV, storeV, putV, indexAddrV, live, upd, pget, pset, psetA, pagg, retag, retagP, byteAV, freezeP, freezeV, joinTags, joinTag, tags, ids, scalar, cellsLen, eqV, convV, faV, fvV, shiftBy, shiftRo, hga, hgb, hlt, hlt2])
              · (refine ⟨0, ?_⟩; simp -implicitDefEqProofs [-getElem?_pos, List.getElem?_cons_zero, List.getElem?_cons_succ, exec, runOps, dstOk, wantedV, AM.step, evalT, evalO, evalArgs, evalParts, getF, putF, afterRegion, assignV, boxOf, newBox, hasIdsP, keepF, ofVal, ofCell, plen, pesz, callV, builtinV, lenV, binV, unV, arith, shiftI, loadV, storeV, putV, indexAddrV, live, upd, pget, pset, psetA, pagg, retag, retagP, byteAV, freezeP, freezeV, joinTags, joinTag, tags, ids, scalar, cellsLen, eqV, convV, faV, fvV, shiftBy, shiftRo, e, saFr])
            · right
              refine ⟨?_, by simp [saO, hxy]⟩
              simp only [saO, List.cons.injEq, hxy, false_and, if_false]
              apply Run.seq
              · (refine ⟨0, ?_⟩; conv => lhs; simp -implicitDefEqProofs [-getElem?_pos, List.getElem?_cons_zero, List.getElem?_cons_succ, exec, runOps, dstOk, wantedV, AM.step, evalT, evalO, evalArgs, evalParts, getF, putF, afterRegion, assignV, boxOf, newBox, hasIdsP, keepF, ofVal, ofCell, plen, pesz, callV, builtinV, lenV, binV, unV, arith, shiftI, loadV, storeV, putV, indexAddrV, live, upd, pget, pset, psetA, pagg, retag, retagP, byteAV, freezeP, freezeV, joinTags, joinTag, tags, ids, scalar, cellsLen, eqV, convV, faV, fvV, shiftBy, shiftRo, hltI, saFr])
              apply Run.seq_out
              · (refine ⟨0, ?_⟩; simp -implicitDefEqProofs [-getElem?_pos, List.getElem?_cons_zero, List.getElem?_cons_succ, exec, runOps, dstOk, wantedV, AM.step, evalT, evalO, evalArgs, evalParts, getF, putF, afterRegion, assignV, boxOf, newBox, hasIdsP, keepF, ofVal, ofCell, plen, pesz, callV, builtinV, lenV, binV, unV, arith, shiftI, loadV, storeV, putV, indexAddrV, live, upd, pget, pset, psetA, pagg, retag, retagP, byteAV, freezeP, freezeV, joinTags, joinTag, tags, ids, scalar, cellsLen, eqV, convV, faV, fvV, shiftBy, shiftRo, hga, hgb, hlt, hlt2, hxy])
              · simp
    · intro fr' H' h
      unfold saO at h
      split at h
      · rename_i hw
        simp only [blockOut, if_true, Out.mk.injEq, true_and] at h
        obtain ⟨rfl, rfl⟩ := h
        subst hw
        refine ⟨0, ?_⟩
        simp -implicitDefEqProofs [-getElem?_pos, List.getElem?_cons_zero, List.getElem?_cons_succ, exec, runOps, dstOk, wantedV, AM.step, evalT, evalO, evalArgs, evalParts, getF, putF, afterRegion, assignV, boxOf, newBox, hasIdsP, keepF, ofVal, ofCell, plen, pesz, callV, builtinV, lenV, binV, unV, arith, shiftI, loadV, storeV, putV, indexAddrV, live, upd, pget, pset, psetA, pagg, retag, retagP, byteAV, freezeP, freezeV, joinTags, joinTag, tags, ids, scalar, cellsLen, eqV, convV, faV, fvV, shiftBy, shiftRo, saFr]
      · simp [blockOut] at h
    · intro h
      unfold saO at h ⊢
      split at h
      · simp [blockOut] at h
      · rename_i hw
        rw [if_neg hw]
        have : (a == b) = false := by simpa using hw
        rw [this]
        rfl
  · have hlI : ((a.length : Int) != (b.length : Int)) = true := by simp; omega
    have hlI2 : ¬ (a.length : Int) = (b.length : Int) := by omega
    have hab : (a == b) = false := by simp; rintro rfl; exact hl rfl
    rw [hab]
    refine ⟨0, ?_⟩
    simp -implicitDefEqProofs [-getElem?_pos, List.getElem?_cons_zero, List.getElem?_cons_succ, exec, runOps, dstOk, wantedV, AM.step, evalT, evalO, evalArgs, evalParts, getF, putF, afterRegion, assignV, boxOf, newBox, hasIdsP, keepF, ofVal, ofCell, plen, pesz, callV, builtinV, lenV, binV, unV, arith, shiftI, loadV, storeV, putV, indexAddrV, live, upd, pget, pset, psetA, pagg, retag, retagP, byteAV, freezeP, freezeV, joinTags, joinTag, tags, ids, scalar, cellsLen, eqV, convV, faV, fvV, shiftBy, shiftRo, hlI, hl, hlI2]

theorem sameI_ev (c c2 : Nat) (a b : List Int) (h63 : a.length < 9223372036854775808) : Ev1 X 17 [.ro c (.pi .i64 a) 1, .ro c2 (.pi .i64 b) 2] [] (.bool (a == b), []) := by
  obtain ⟨code, hb, hr⟩ := sameI_code (fun _ _ _ => .none) c c2 a b h63
  exact Ev1.plain (l := [.bool (a == b)]) Below.none Try.func17 hb rfl rfl (by simp [gtag]) hr (.inr rfl) rfl rfl rfl

theorem bits_nat {v : Nat} (h : v < 9223372036854775808) : (AM.bits .i64 (v : Int)).toNat = v := by
  unfold AM.bits
  simp [IntKind.bits]
  omega

theorem bits_one : (AM.bits .i64 1).toNat = 1 := by decide

/-- the document's bit i -/
def rbit (b : List UInt8) (i : Nat) : Int := ((b.getD (i / 8) 0).toNat / 2 ^ (i % 8) % 2 : Nat)

set_option maxRecDepth 100000 in
theorem bit_code (T : Cf) (c : Nat) (b : List UInt8) (i : Nat) (hi : i < 8 * b.length) (h63 : i < 9223372036854775807) : ∃ code, Try.f27.body = some code ∧
    Run X T 27 0 code [(0, .ro c (.pb b) 1), (1, .int .i64 (i : Nat))] [] ⟨.ret, [(4, .int .i64 (rbit b i))], []⟩ := by
  refine ⟨_, rfl, 0, ?_⟩
  unfold rbit
  have e1 : ((i : Nat) : Int).tdiv 8 = ((i / 8 : Nat) : Int) := by rw [Int.tdiv_eq_ediv_of_nonneg (by omega)]; omega
  have e2 : ((i : Nat) : Int).tmod 8 = ((i % 8 : Nat) : Int) := by rw [Int.tmod_eq_emod_of_nonneg (by omega)]; omega
  have e3 : ((i : Nat) : Int) / 8 = ((i / 8 : Nat) : Int) := by omega
  have e4 : ((i : Nat) : Int) % 8 = ((i % 8 : Nat) : Int) := by omega
  have h8 : i / 8 < b.length := by omega
  have hr8 : i % 8 < 8 := by omega
  generalize i / 8 = q at *
  generalize i % 8 = r at *
  have hget : b[q]? = some (b.getD q 0) := by rw [List.getD_eq_getElem?_getD, List.getElem?_eq_getElem h8]; rfl
  have w1 : IntKind.i64.wrap (q : Int) = (q : Int) := wrap_i64 (by omega) (by omega)
  have w2 : IntKind.i64.wrap (r : Int) = (r : Int) := wrap_i64 (by omega) (by omega)
  have w3 : IntKind.u64.wrap (r : Int) = (r : Int) := wrap_u64 (by omega) (by omega)
  generalize b.getD q 0 = y at hget ⊢
  have hr0 : ¬ ((r : Int) < 0) := by omega
  have hv : ((y.toNat : Nat) : Int).fdiv (2 ^ r) = ((y.toNat / 2 ^ r : Nat) : Int) := by
    rw [Int.fdiv_eq_ediv_of_nonneg _ (by exact Int.le_of_lt (Int.pow_pos (by omega)))]; simp
  have hvl : y.toNat / 2 ^ r < 256 := Nat.lt_of_le_of_lt (Nat.div_le_self _ _) y.toNat_lt
  have hm : min r IntKind.u8.bits = r := by simp [IntKind.bits]; omega
  have hq : ((y.toNat / 2 ^ r % 2 : Nat) : Int) = IntKind.i64.wrap (((y.toNat / 2 ^ r) &&& 1 : Nat) : Int) := by
    rw [Nat.and_one_is_mod, wrap_i64 (by omega) (by omega)]
  rw [hq]
  generalize y.toNat / 2 ^ r = v at *
  have w5 : IntKind.i64.wrap (v : Int) = (v : Int) := wrap_i64 (by omega) (by omega)
  have hb := bits_nat (v := v) (by omega)
  simp -implicitDefEqProofs [-getElem?_pos, List.getElem?_cons_zero, List.getElem?_cons_succ, exec, runOps, dstOk, wantedV, AM.step, evalT, evalO, evalArgs, evalParts, getF, putF, afterRegion, assignV, boxOf, newBox, hasIdsP, keepF, ofVal, ofCell, plen, pesz, callV, builtinV, lenV, binV, unV, arith, shiftI, loadV, storeV, putV, indexAddrV, live, upd, pget, pset, psetA, pagg, retag, retagP, byteAV, freezeP, freezeV, joinTags, joinTag, tags, ids, scalar, cellsLen, eqV, convV, faV, fvV, shiftBy, shiftRo, hget, e1, e2, e3, e4, w1, w2, w3, h8, hr0, hm, hv, w5, hb, bits_one]

end Go.Proofs.Ytikleidhmekgnaa
