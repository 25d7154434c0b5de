/- Walks: Read. -/
import Derived.Test.YtikleidhmekgnaaWV
namespace Go.Proofs.Ytikleidhmekgnaa
open Go.AM
set_option linter.unusedSimpArgs false
set_option linter.unusedVariables false

def preadR (l : List Int) (b : List UInt8) (a : Int) : Int × Int × Int :=
  if (checkR l).2 = 0 then (if a < 0 then (0, 0, 2) else (pdecL l (countsR l).1 (firstsR (countsR l).1) b a.toNat (mxL 0 l).toNat 1 0).1) else (0, 0, (checkR l).2)

set_option maxRecDepth 100000 in
theorem read_code (c c2 : Nat) (l : List Int) (b : List UInt8) (a : Int) (h63 : l.length < 9223372036854775808) (hb : b.length ≤ 100000) (ha : a < 9223372036854775808) : ∃ code, Try.f9.body = some code ∧ ∃ H,
    Run X (evT X) 9 0 code [(0, .ro c (.pi .i64 l) 1), (1, .ro c2 (.pb b) 2), (2, .int .i64 a)] []
      ⟨.ret, [(6, .int .i64 (preadR l b a).1), (7, .int .i64 (preadR l b a).2.1), (8, .int .i64 (preadR l b a).2.2)], H⟩ := by
  refine ⟨_, rfl, ?_⟩
  have hCk := evT_eq (T2_below _ _ _ _ (T2_check (H := []) (a := .ro c (.pi .i64 l) 1) (l := l) rfl h63))
  unfold ckV at hCk
  unfold preadR
  by_cases he : (checkR l).2 = 0
  · rw [if_pos he]
    by_cases h0 : a < 0
    · rw [if_pos h0]
      refine ⟨[], 0, ?_⟩
      simp -implicitDefEqProofs [-getElem?_pos, List.getElem?_cons_zero, List.getElem?_cons_succ, exec, runOps, dstOk, wantedV, AM.step, evalT, evalO, evalArgs, evalParts, getF, putF, afterRegion, assignV, boxOf, newBox, hasIdsP, keepF, ofVal, ofCell, plen, pesz, callV, builtinV, lenV, binV, unV, arith, shiftI, loadV, storeV, putV, indexAddrV, live, upd, pget, pset, psetA, pagg, retag, retagP, byteAV, freezeP, freezeV, joinTags, joinTag, tags, ids, scalar, cellsLen, eqV, convV, faV, fvV, shiftBy, shiftRo, hCk, he, h0]
    · rw [if_neg h0]
      have hrc := he
      rw [check_eq] at hrc
      obtain ⟨hl, hf⟩ := rcheck_fine hrc
      have hRd := evT_eq (reader_ev c c2 l b a hl hf)
      have hmx := mxL_bound l 0 (by omega) (by omega) hf
      have hfl : (firstsR (countsR l).1).length = 17 := by unfold firstsR; rw [firstL_len]; rfl
      have hNx := evT_eq (next_ev (c := c2) (b := b) (m := mxL 0 l) (n := (countsR l).1) (f := firstsR (countsR l).1) (l := l) (t := 0) (tn := 0) (pre := []) a.toNat hmx hl (countsR_len l) hfl (fun i hi => countsR_at hl hf i hi)
        (fun i hi => by
          rw [firstsR_at hl hf i (by omega)]
          have hbd := fst_bound (ct l) (fun j => ⟨ct_nonneg l j, by have := ct_le l j; omega⟩) i
          have hp : (2 : Int) ^ i ≤ 2 ^ 15 := by
            have := Nat.pow_le_pow_right (n := 2) (by omega) (show i ≤ 15 by omega)
            exact_mod_cast this
          omega) hb (by omega) (.inl rfl) (.inl rfl))
      rw [show ((a.toNat : Nat) : Int) = a by omega] at hNx
      simp only [List.nil_append, List.length_nil, cap6, Nat.zero_add] at hNx
      generalize pdecL l (countsR l).1 (firstsR (countsR l).1) b a.toNat (mxL 0 l).toNat 1 0 = r at hNx ⊢
      unfold t3 at hNx
      refine ⟨nH c2 b (r.2 : Nat) (mxL 0 l) (countsR l).1 (firstsR (countsR l).1) l 0 2 2 2, 0, ?_⟩
      simp -implicitDefEqProofs [-getElem?_pos, List.getElem?_cons_zero, List.getElem?_cons_succ, exec, runOps, dstOk, wantedV, AM.step, evalT, evalO, evalArgs, evalParts, getF, putF, afterRegion, assignV, boxOf, newBox, hasIdsP, keepF, ofVal, ofCell, plen, pesz, callV, builtinV, lenV, binV, unV, arith, shiftI, loadV, storeV, putV, indexAddrV, live, upd, pget, pset, psetA, pagg, retag, retagP, byteAV, freezeP, freezeV, joinTags, joinTag, tags, ids, scalar, cellsLen, eqV, convV, faV, fvV, shiftBy, shiftRo, hCk, he, h0, hRd, hNx]
  · rw [if_neg he]
    have heb : ((checkR l).2 != 0) = true := by simpa using he
    refine ⟨[], 0, ?_⟩
    simp -implicitDefEqProofs [-getElem?_pos, List.getElem?_cons_zero, List.getElem?_cons_succ, exec, runOps, dstOk, wantedV, AM.step, evalT, evalO, evalArgs, evalParts, getF, putF, afterRegion, assignV, boxOf, newBox, hasIdsP, keepF, ofVal, ofCell, plen, pesz, callV, builtinV, lenV, binV, unV, arith, shiftI, loadV, storeV, putV, indexAddrV, live, upd, pget, pset, psetA, pagg, retag, retagP, byteAV, freezeP, freezeV, joinTags, joinTag, tags, ids, scalar, cellsLen, eqV, convV, faV, fvV, shiftBy, shiftRo, hCk, he, heb]

theorem preadR_eq (l : List Int) (b : List UInt8) (a : Int) : preadR l b a = rreadR l b a := by
  unfold preadR rreadR
  rw [check_eq]
  by_cases he : (rcheckR l).2 = 0
  · rw [if_pos he, if_pos he]
    by_cases h0 : a < 0
    · rw [if_pos h0, if_pos h0]
    · rw [if_neg h0, if_neg h0]
      obtain ⟨hl, hf⟩ := rcheck_fine he
      have hmx := mxL_bound l 0 (by omega) (by omega) hf
      rw [← codes_eq hl hf]
      exact pdec_eq l _ _ b a.toNat hl hf (fun i hi => countsR_at hl hf i hi) (fun i hi => firstsR_at hl hf i (by omega)) _ 1 0 (by omega) (by omega)
  · rw [if_neg he, if_neg he]

theorem read_ev (c c2 : Nat) (l : List Int) (b : List UInt8) (a : Int) (h63 : l.length < 9223372036854775808) (hb : b.length ≤ 100000) (ha : a < 9223372036854775808) :
    Ev1 X 9 [.ro c (.pi .i64 l) 1, .ro c2 (.pb b) 2, .int .i64 a] [] (t3 (rreadR l b a), []) := by
  obtain ⟨code, hbo, H, hr⟩ := read_code c c2 l b a h63 hb ha
  rw [preadR_eq] at hr
  exact Ev1.plain (l := [.int .i64 (rreadR l b a).1, .int .i64 (rreadR l b a).2.1, .int .i64 (rreadR l b a).2.2]) (evT_below X) Try.func9 hbo rfl rfl (by simp [gtag]) hr (.inr rfl) rfl rfl rfl

end Go.Proofs.Ytikleidhmekgnaa
