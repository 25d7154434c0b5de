/- Walks: the law HuffmanPrefix. -/
import Derived.Test.YtikleidhmekgnaaV4
namespace Go.Proofs.Ytikleidhmekgnaa
open Go.AM
set_option linter.unusedSimpArgs false
set_option linter.unusedVariables false

theorem bs2 (H : AM.Heap) (u v : Int) (hu : 0 ≤ u ∧ u < 256) (hv : 0 ≤ v ∧ v < 256) : buildSliceV X H 28 2 [(0, .int .u8 u), (1, .int .u8 v)] = some (.ro 1 (.pb [UInt8.ofNat u.toNat, UInt8.ofNat v.toNat]) 0, H) := by
  have hz : zeroAV X 5 = .int .u8 0 := by kernel_rfl
  have hs : sizeT X 5 = 1 := by kernel_rfl
  have hm : mkRow X 5 [.int .u8 u, .int .u8 v] = some (.pb [UInt8.ofNat u.toNat, UInt8.ofNat v.toNat]) := by
    simp [mkRow, und5, asBytes, hu, hv]
  simp [buildSliceV, und28, hz, hs, cellsAV, scalars, scalar, setParts, List.replicate, idsL, ids, litRow, hm, tagsL, tags, joinTags]

def pfFr (c : Nat) (l : List Int) (w : Bool) (x : Int) (i : Nat) : AM.Frame :=
  [(0, .ro c (.pi .i64 l) 1), (1, .int .u16 x), (5, .sl 0 0 l.length 0), (7, .bool w), (9, .int .i64 (i : Nat))]

def pkFr (c : Nat) (l : List Int) (w : Bool) (x : Int) (i k : Nat) : AM.Frame :=
  [(0, .ro c (.pi .i64 l) 1), (1, .int .u16 x), (5, .sl 0 0 l.length 0), (7, .bool w), (9, .int .i64 (i : Nat)), (10, .int .i64 (k : Nat))]

theorem getE {l : List Int} {p : Nat} (hp : p < l.length) : l[p]? = some (l.getD p 0) := by
  rw [List.getElem?_eq_getElem hp, List.getD_eq_getElem?_getD, List.getElem?_eq_getElem hp]; rfl

/-- a piece of code by its path: 0 the first of a pair, 1 the second, 2 what a block or a loop holds -/
def subC : Code → List Nat → Option Code
  | c, [] => some c
  | .seq a _, 0 :: p => subC a p
  | .seq _ b, 1 :: p => subC b p
  | .block _ c, 2 :: p => subC c p
  | .loop c, 2 :: p => subC c p
  | _, _ => none

def bodyC (f : Func) : Code := f.body.getD .skip

theorem useC {o : Option Code} {c : Code} {P : Code → Prop} (h : ∃ code, o = some code ∧ P code) (e : o = some c) : P c := by
  obtain ⟨code, h1, h2⟩ := h
  rw [h1] at e
  rwa [← Option.some.inj e]

theorem wrap_u64' {n : Int} (h0 : 0 ≤ n) (h : n < 18446744073709551616) : IntKind.u64.wrap n = n := wrap_u64 h0 h

section
variable {T : Cf} {c : Nat} {l cs : List Int} {w : Bool} {x : Int} {i k : Nat}

set_option maxRecDepth 100000 in
theorem r14 (hi2 : i < l.length) (hcz : l.getD i 0 = 0 → code l i = -1) (hci : cs[i]? = some (code l i)) (hcl : cs.length = l.length) (hfi : 0 ≤ l.getD i 0 ∧ l.getD i 0 ≤ 15 ∧ l.getD i 0 ≤ mxL 0 l)
    (hlt : ∀ L : Nat, l.getD i 0 = (L : Int) → 0 < L → 0 ≤ code l i ∧ code l i < 2 ^ L) :
    ∃ code, subC (bodyC Try.f5) [1, 1, 1, 1, 1, 1, 1, 0, 1, 2, 2, 1, 0, 2, 0] = some code ∧ Run X T 5 0 code (pfFr c l w x i ++ [(39, .bool true)]) [rowI l.length cs] ⟨.normal, pfFr c l w x i ++ [(65, .bool false)], [rowI l.length cs]⟩ := by
  have hgi := getE hi2
  refine ⟨_, rfl, ?_⟩
  by_cases hz : l.getD i 0 = 0
  · have hc1 := hcz hz
    rw [hz] at hgi
    rw [hc1] at hci
    (refine ⟨0, ?_⟩; simp -implicitDefEqProofs [-getElem?_pos, List.getElem?_cons_zero, List.getElem?_cons_succ, exec, runOps, dstOk, wantedV, AM.step, evalT, evalO, evalArgs, evalParts, getF, putF, afterRegion, assignV, boxOf, newBox, hasIdsP, keepF, ofVal, ofCell, plen, pesz, callV, builtinV, lenV, binV, unV, arith, shiftI, loadV, storeV, putV, indexAddrV, live, upd, pget, pset, psetA, pagg, retag, retagP, byteAV, freezeP, freezeV, joinTags, joinTag, tags, ids, scalar, cellsLen, eqV, convV, faV, fvV, shiftBy, shiftRo, pfFr, rowI, hgi, hci, hi2, hcl, show IntKind.u64.wrap 0 = 0 from by decide, show IntKind.i64.wrap 1 = 1 from by decide, IntKind.bits])
  · obtain ⟨L, hL2⟩ : ∃ L : Nat, l.getD i 0 = (L : Int) := ⟨(l.getD i 0).toNat, by omega⟩
    have hc2 := hlt L hL2 (by omega)
    rw [hL2] at hgi
    have hL0 : ¬ (L = 0) := by omega
    have hL15 : L ≤ 15 := by omega
    have hp15 : (2 : Int) ^ L ≤ 2 ^ 15 := by
      have := Nat.pow_le_pow_right (n := 2) (by omega) (show L ≤ 15 by omega)
      exact_mod_cast this
    have hp0 : (0 : Int) < 2 ^ L := Int.pow_pos (by omega)
    have hmin : min L 64 = L := by omega
    have hwL : IntKind.u64.wrap (L : Int) = (L : Int) := wrap_u64 (by omega) (by omega)
    have hwp : IntKind.i64.wrap ((2 : Int) ^ L) = 2 ^ L := wrap_i64 (by omega) (by omega)
    have hcn : ¬ code l i = -1 := by omega
    have hcl2 : ¬ (2 ^ L ≤ code l i) := by omega
    have hLn : ¬ ((L : Int) < 0) := by omega
    generalize code l i = ci at *
    have hLb : ((L : Int) == 0) = false := by simp; omega
    have hcb : (ci == -1) = false := by simp; omega
    (refine ⟨0, ?_⟩; simp -implicitDefEqProofs [-getElem?_pos, List.getElem?_cons_zero, List.getElem?_cons_succ, exec, runOps, dstOk, wantedV, AM.step, evalT, evalO, evalArgs, evalParts, getF, putF, afterRegion, assignV, boxOf, newBox, hasIdsP, keepF, ofVal, ofCell, plen, pesz, callV, builtinV, lenV, binV, unV, arith, shiftI, loadV, storeV, putV, indexAddrV, live, upd, pget, pset, psetA, pagg, retag, retagP, byteAV, freezeP, freezeV, joinTags, joinTag, tags, ids, scalar, cellsLen, eqV, convV, faV, fvV, shiftBy, shiftRo, pfFr, rowI, hgi, hci, hi2, hcl, hL0, hmin, hwL, hwp, hLb, hcb, hcn, hcl2, hLn, IntKind.bits])

set_option maxRecDepth 100000 in
theorem r19 (hi2 : i < l.length) (hk2 : k < l.length) (hci : cs[i]? = some (code l i)) (hck : cs[k]? = some (code l k)) (hcl : cs.length = l.length) (hfi : 0 ≤ l.getD i 0 ∧ l.getD i 0 ≤ 15 ∧ l.getD i 0 ≤ mxL 0 l) (hfk : 0 ≤ l.getD k 0 ∧ l.getD k 0 ≤ 15 ∧ l.getD k 0 ≤ mxL 0 l)
    (hin : i ≠ k → 0 < l.getD i 0 → l.getD k 0 = l.getD i 0 → code l k ≠ code l i) (hsk : 0 < l.getD i 0 → ∀ d : Nat, l.getD k 0 = l.getD i 0 + ((d + 1 : Nat) : Int) → code l k / 2 ^ (d + 1) ≠ code l i) :
    ∃ code, subC (bodyC Try.f5) [1, 1, 1, 1, 1, 1, 1, 0, 1, 2, 2, 1, 0, 2, 1, 1, 2, 2, 1, 0, 2] = some code ∧ Run X T 5 0 code (pkFr c l w x i k ++ [(69, .bool true)]) [rowI l.length cs] ⟨.normal, pkFr c l w x i k ++ [(114, .bool false)], [rowI l.length cs]⟩ := by
  have hgi := getE hi2
  refine ⟨_, rfl, ?_⟩
  by_cases hik : i = k
  · subst hik
    (refine ⟨0, ?_⟩; simp -implicitDefEqProofs [-getElem?_pos, List.getElem?_cons_zero, List.getElem?_cons_succ, exec, runOps, dstOk, wantedV, AM.step, evalT, evalO, evalArgs, evalParts, getF, putF, afterRegion, assignV, boxOf, newBox, hasIdsP, keepF, ofVal, ofCell, plen, pesz, callV, builtinV, lenV, binV, unV, arith, shiftI, loadV, storeV, putV, indexAddrV, live, upd, pget, pset, psetA, pagg, retag, retagP, byteAV, freezeP, freezeV, joinTags, joinTag, tags, ids, scalar, cellsLen, eqV, convV, faV, fvV, shiftBy, shiftRo, pkFr, rowI])
  have hikI : ((i : Int) != (k : Int)) = true := by simp; omega
  by_cases hz : 0 < l.getD i 0
  case neg =>
    generalize l.getD i 0 = xi at *
    (refine ⟨0, ?_⟩; simp -implicitDefEqProofs [-getElem?_pos, List.getElem?_cons_zero, List.getElem?_cons_succ, exec, runOps, dstOk, wantedV, AM.step, evalT, evalO, evalArgs, evalParts, getF, putF, afterRegion, assignV, boxOf, newBox, hasIdsP, keepF, ofVal, ofCell, plen, pesz, callV, builtinV, lenV, binV, unV, arith, shiftI, loadV, storeV, putV, indexAddrV, live, upd, pget, pset, psetA, pagg, retag, retagP, byteAV, freezeP, freezeV, joinTags, joinTag, tags, ids, scalar, cellsLen, eqV, convV, faV, fvV, shiftBy, shiftRo, pkFr, rowI, hikI, hgi, hi2, hz])
  case pos =>
  have hgk := getE hk2
  have hin := hin hik hz
  have hsk := hsk hz
  generalize l.getD i 0 = xi at *
  generalize l.getD k 0 = xk at *
  by_cases hle : xi ≤ xk
  case neg =>
    (refine ⟨0, ?_⟩; simp -implicitDefEqProofs [-getElem?_pos, List.getElem?_cons_zero, List.getElem?_cons_succ, exec, runOps, dstOk, wantedV, AM.step, evalT, evalO, evalArgs, evalParts, getF, putF, afterRegion, assignV, boxOf, newBox, hasIdsP, keepF, ofVal, ofCell, plen, pesz, callV, builtinV, lenV, binV, unV, arith, shiftI, loadV, storeV, putV, indexAddrV, live, upd, pget, pset, psetA, pagg, retag, retagP, byteAV, freezeP, freezeV, joinTags, joinTag, tags, ids, scalar, cellsLen, eqV, convV, faV, fvV, shiftBy, shiftRo, pkFr, rowI, hikI, hgi, hgk, hi2, hk2, hz, hle])
  case pos =>
  generalize code l i = ci at *
  generalize code l k = ck at *
  obtain ⟨d, hd⟩ : ∃ d : Nat, xk - xi = (d : Int) := ⟨(xk - xi).toNat, by omega⟩
  have hne : ¬ (ck / 2 ^ d = ci) := by
    cases d with
    | zero => simp; exact hin (by omega)
    | succ d => exact hsk d (by omega)
  have hneb : (ck / 2 ^ d == ci) = false := by simpa using hne
  have hd64 : min d 64 = d := by omega
  have hwd : IntKind.i64.wrap (d : Int) = (d : Int) := wrap_i64 (by omega) (by omega)
  have hwu : IntKind.u64.wrap (d : Int) = (d : Int) := wrap_u64 (by omega) (by omega)
  have hfd : ck.fdiv (2 ^ d) = ck / 2 ^ d := Int.fdiv_eq_ediv_of_nonneg _ (Int.le_of_lt (Int.pow_pos (by omega)))
  have hdn : ¬ ((d : Int) < 0) := by omega
  (refine ⟨0, ?_⟩; simp -implicitDefEqProofs [-getElem?_pos, List.getElem?_cons_zero, List.getElem?_cons_succ, exec, runOps, dstOk, wantedV, AM.step, evalT, evalO, evalArgs, evalParts, getF, putF, afterRegion, assignV, boxOf, newBox, hasIdsP, keepF, ofVal, ofCell, plen, pesz, callV, builtinV, lenV, binV, unV, arith, shiftI, loadV, storeV, putV, indexAddrV, live, upd, pget, pset, psetA, pagg, retag, retagP, byteAV, freezeP, freezeV, joinTags, joinTag, tags, ids, scalar, cellsLen, eqV, convV, faV, fvV, shiftBy, shiftRo, pkFr, rowI, hikI, hgi, hgk, hci, hck, hi2, hk2, hcl, hz, hle, hd, hd64, hwd, hwu, hfd, hne, hneb, hdn, IntKind.bits])

end

set_option maxRecDepth 100000 in
theorem pref_code (c : Nat) (l : List Int) (x : Int) (h63 : l.length < 9223372036854775808) : ∃ code, Try.f5.body = some code ∧ ∃ H,
    Run X (evT X) 5 0 code [(0, .ro c (.pi .i64 l) 1), (1, .int .u16 x)] [] ⟨.ret, [(4, .bool true)], H⟩ := by
  refine ⟨_, rfl, ?_⟩
  have hL := E_lives
  have hC := E_codes (H := []) (a := .ro c (.pi .i64 l) 1) (l := l) rfl h63
  have hK := E_check (H := [coO l]) (a := .ro c (.pi .i64 l) 1) (l := l) rfl h63
  simp only [List.nil_append, List.length_nil] at hC
  by_cases he : (rcheckR l).2 = 0
  · obtain ⟨hl, hf⟩ := rcheck_fine he
    have hcl := rcodesR_len l
    have hcode := fun p (hp : p < l.length) => rcodesR_at hl hf p hp
    have hlt := fun p hp x hx h0 => code_lt he (p := p) hp x hx h0
    have hfa := fun p (hp : p < l.length) => fine_at hf hp
    have hcz : ∀ p, l.getD p 0 = 0 → code l p = -1 := fun p h => by unfold code; rw [h]; rfl
    have hinj : ∀ p q, p < l.length → q < l.length → p ≠ q → 0 < l.getD p 0 → l.getD q 0 = l.getD p 0 → code l q ≠ code l p := by
      intro p q hp hq hne h0 he2
      obtain ⟨L, hL2⟩ : ∃ L : Nat, l.getD p 0 = (L : Int) := ⟨(l.getD p 0).toNat, by omega⟩
      rw [hL2] at h0 he2
      by_cases h : p < q
      · have := code_inj h hq L hL2 he2 (by omega); omega
      · have := code_inj (show q < p by omega) hp L he2 hL2 (by omega); omega
    have hsh : ∀ p q (d : Nat), p < l.length → q < l.length → 0 < l.getD p 0 → l.getD q 0 = l.getD p 0 + ((d + 1 : Nat) : Int) → code l q / 2 ^ (d + 1) ≠ code l p := by
      intro p q d hp hq h0 he2
      obtain ⟨L, hL2⟩ : ∃ L : Nat, l.getD p 0 = (L : Int) := ⟨(l.getD p 0).toNat, by omega⟩
      rw [hL2] at h0 he2
      have := code_short hl hp hq L d hL2 (by rw [he2]; omega) (by omega)
      omega
    have hB := E_read (H := [coO l]) (a := .ro c (.pi .i64 l) 1) (a2 := .ro 1 (.pb [UInt8.ofNat (IntKind.u8.wrap x).toNat, UInt8.ofNat (IntKind.u8.wrap (x.fdiv 256)).toNat]) 0) (l := l) (x := 0) rfl rfl (by omega) (by simp) (by omega)
    have hwh := fun hw => whole_reads he hw [UInt8.ofNat (IntKind.u8.wrap x).toNat, UInt8.ofNat (IntKind.u8.wrap (x.fdiv 256)).toNat] rfl
    have hbs := fun H => bs2 H (IntKind.u8.wrap x) (IntKind.u8.wrap (x.fdiv 256)) (u8_range _) (u8_range _)
    generalize [UInt8.ofNat (IntKind.u8.wrap x).toNat, UInt8.ofNat (IntKind.u8.wrap (x.fdiv 256)).toNat] = B at hB hwh hbs
    have eR : coR l = rcodesR l := by unfold coR; rw [if_pos he]
    have eO : coO l = rowI l.length (rcodesR l) := by unfold coO; rw [if_pos he]
    rw [eR, eO, he, hcl] at hC
    rw [eO, he] at hK
    rw [eO] at hB
    generalize rreadR l B 0 = rr at *
    unfold t3 at hB
    generalize (rcheckR l).1 = w at *
    generalize rcodesR l = cs at *
    have hge : ∀ p, p < l.length → cs[p]? = some (code l p) := fun p hp => by rw [getE (by omega), hcode p hp]
    simp only [rowI] at hB hK
    refine ⟨[rowI l.length cs], ?_⟩
    apply Run.seq
    · (refine ⟨0, ?_⟩; conv => lhs; simp -implicitDefEqProofs [-getElem?_pos, List.getElem?_cons_zero, List.getElem?_cons_succ, exec, runOps, dstOk, wantedV, AM.step, evalT, evalO, evalArgs, evalParts, getF, putF, afterRegion, assignV, boxOf, newBox, hasIdsP, keepF, ofVal, ofCell, plen, pesz, callV, builtinV, lenV, binV, unV, arith, shiftI, loadV, storeV, putV, indexAddrV, live, upd, pget, pset, psetA, pagg, retag, retagP, byteAV, freezeP, freezeV, joinTags, joinTag, tags, ids, scalar, cellsLen, eqV, convV, faV, fvV, shiftBy, shiftRo, rowI])
    apply Run.seq
    · (refine ⟨0, ?_⟩; conv => lhs; simp -implicitDefEqProofs [-getElem?_pos, List.getElem?_cons_zero, List.getElem?_cons_succ, exec, runOps, dstOk, wantedV, AM.step, evalT, evalO, evalArgs, evalParts, getF, putF, afterRegion, assignV, boxOf, newBox, hasIdsP, keepF, ofVal, ofCell, plen, pesz, callV, builtinV, lenV, binV, unV, arith, shiftI, loadV, storeV, putV, indexAddrV, live, upd, pget, pset, psetA, pagg, retag, retagP, byteAV, freezeP, freezeV, joinTags, joinTag, tags, ids, scalar, cellsLen, eqV, convV, faV, fvV, shiftBy, shiftRo, hL])
    apply Run.seq
    · (refine ⟨0, ?_⟩; conv => lhs; simp -implicitDefEqProofs [-getElem?_pos, List.getElem?_cons_zero, List.getElem?_cons_succ, exec, runOps, dstOk, wantedV, AM.step, evalT, evalO, evalArgs, evalParts, getF, putF, afterRegion, assignV, boxOf, newBox, hasIdsP, keepF, ofVal, ofCell, plen, pesz, callV, builtinV, lenV, binV, unV, arith, shiftI, loadV, storeV, putV, indexAddrV, live, upd, pget, pset, psetA, pagg, retag, retagP, byteAV, freezeP, freezeV, joinTags, joinTag, tags, ids, scalar, cellsLen, eqV, convV, faV, fvV, shiftBy, shiftRo, hC, rowI])
    apply Run.seq
    · (refine ⟨0, ?_⟩; conv => lhs; simp -implicitDefEqProofs [-getElem?_pos, List.getElem?_cons_zero, List.getElem?_cons_succ, exec, runOps, dstOk, wantedV, AM.step, evalT, evalO, evalArgs, evalParts, getF, putF, afterRegion, assignV, boxOf, newBox, hasIdsP, keepF, ofVal, ofCell, plen, pesz, callV, builtinV, lenV, binV, unV, arith, shiftI, loadV, storeV, putV, indexAddrV, live, upd, pget, pset, psetA, pagg, retag, retagP, byteAV, freezeP, freezeV, joinTags, joinTag, tags, ids, scalar, cellsLen, eqV, convV, faV, fvV, shiftBy, shiftRo, hK, rowI])
    apply Run.seq
    · (refine ⟨0, ?_⟩; conv => lhs; simp -implicitDefEqProofs [-getElem?_pos, List.getElem?_cons_zero, List.getElem?_cons_succ, exec, runOps, dstOk, wantedV, AM.step, evalT, evalO, evalArgs, evalParts, getF, putF, afterRegion, assignV, boxOf, newBox, hasIdsP, keepF, ofVal, ofCell, plen, pesz, callV, builtinV, lenV, binV, unV, arith, shiftI, loadV, storeV, putV, indexAddrV, live, upd, pget, pset, psetA, pagg, retag, retagP, byteAV, freezeP, freezeV, joinTags, joinTag, tags, ids, scalar, cellsLen, eqV, convV, faV, fvV, shiftBy, shiftRo, rowI])
    apply Run.seq
    · (refine ⟨0, ?_⟩; conv => lhs; simp -implicitDefEqProofs [-getElem?_pos, List.getElem?_cons_zero, List.getElem?_cons_succ, exec, runOps, dstOk, wantedV, AM.step, evalT, evalO, evalArgs, evalParts, getF, putF, afterRegion, assignV, boxOf, newBox, hasIdsP, keepF, ofVal, ofCell, plen, pesz, callV, builtinV, lenV, binV, unV, arith, shiftI, loadV, storeV, putV, indexAddrV, live, upd, pget, pset, psetA, pagg, retag, retagP, byteAV, freezeP, freezeV, joinTags, joinTag, tags, ids, scalar, cellsLen, eqV, convV, faV, fvV, shiftBy, shiftRo, rowI])
    apply Run.seq
    · (refine ⟨0, ?_⟩; conv => lhs; simp -implicitDefEqProofs [-getElem?_pos, List.getElem?_cons_zero, List.getElem?_cons_succ, exec, runOps, dstOk, wantedV, AM.step, evalT, evalO, evalArgs, evalParts, getF, putF, afterRegion, assignV, boxOf, newBox, hasIdsP, keepF, ofVal, ofCell, plen, pesz, callV, builtinV, lenV, binV, unV, arith, shiftI, loadV, storeV, putV, indexAddrV, live, upd, pget, pset, psetA, pagg, retag, retagP, byteAV, freezeP, freezeV, joinTags, joinTag, tags, ids, scalar, cellsLen, eqV, convV, faV, fvV, shiftBy, shiftRo, rowI])
    apply Run.seq (fr' := pfFr c l w x l.length ++ [(39, .bool false)]) (H' := [rowI l.length cs])
    · apply Run.seq (fr' := pfFr c l w x 0) (H' := [rowI l.length cs])
      · (refine ⟨0, ?_⟩; simp -implicitDefEqProofs [-getElem?_pos, List.getElem?_cons_zero, List.getElem?_cons_succ, exec, runOps, dstOk, wantedV, AM.step, evalT, evalO, evalArgs, evalParts, getF, putF, afterRegion, assignV, boxOf, newBox, hasIdsP, keepF, ofVal, ofCell, plen, pesz, callV, builtinV, lenV, binV, unV, arith, shiftI, loadV, storeV, putV, indexAddrV, live, upd, pget, pset, psetA, pagg, retag, retagP, byteAV, freezeP, freezeV, joinTags, joinTag, tags, ids, scalar, cellsLen, eqV, convV, faV, fvV, shiftBy, shiftRo, pfFr, rowI])
      · apply Run.block_exit
        refine Run.loop_rule (σ := Nat) (fun i => i ≤ l.length) (fun i => pfFr c l w x i) (fun _ => [rowI l.length cs]) (fun _ => ⟨.exit 0, pfFr c l w x l.length ++ [(39, .bool false)], [rowI l.length cs]⟩) (fun i => l.length - i) ?_ 0 (Nat.zero_le _)
        intro i hi
        simp only
        by_cases hil : i = l.length
        · right
          refine ⟨?_, by simp⟩
          subst hil
          (refine ⟨0, ?_⟩; simp -implicitDefEqProofs [-getElem?_pos, List.getElem?_cons_zero, List.getElem?_cons_succ, exec, runOps, dstOk, wantedV, AM.step, evalT, evalO, evalArgs, evalParts, getF, putF, afterRegion, assignV, boxOf, newBox, hasIdsP, keepF, ofVal, ofCell, plen, pesz, callV, builtinV, lenV, binV, unV, arith, shiftI, loadV, storeV, putV, indexAddrV, live, upd, pget, pset, psetA, pagg, retag, retagP, byteAV, freezeP, freezeV, joinTags, joinTag, tags, ids, scalar, cellsLen, eqV, convV, faV, fvV, shiftBy, shiftRo, pfFr, rowI])
        · left
          have hi2 : i < l.length := by omega
          have hiI : (i : Int) < (l.length : Int) := by omega
          refine ⟨i + 1, by omega, ?_, trivial, by omega⟩
          have w1 : IntKind.i64.wrap ((i : Int) + 1) = ((i + 1 : Nat) : Int) := by rw [wrap_i64 (by omega) (by omega)]; omega
          have hgi := getE hi2
          have hci := hge i hi2
          have hfi := hfa i hi2
          apply Run.seq
          · (refine ⟨0, ?_⟩; conv => lhs; simp -implicitDefEqProofs [-getElem?_pos, List.getElem?_cons_zero, List.getElem?_cons_succ, exec, runOps, dstOk, wantedV, AM.step, evalT, evalO, evalArgs, evalParts, getF, putF, afterRegion, assignV, boxOf, newBox, hasIdsP, keepF, ofVal, ofCell, plen, pesz, callV, builtinV, lenV, binV, unV, arith, shiftI, loadV, storeV, putV, indexAddrV, live, upd, pget, pset, psetA, pagg, retag, retagP, byteAV, freezeP, freezeV, joinTags, joinTag, tags, ids, scalar, cellsLen, eqV, convV, faV, fvV, shiftBy, shiftRo, pfFr, hiI, rowI])
          apply Run.seq (fr' := pkFr c l w x i l.length ++ [(69, .bool false)]) (H' := [rowI l.length cs])
          · apply Run.block
            · apply Run.seq (fr' := pfFr c l w x i ++ [(65, .bool false)]) (H' := [rowI l.length cs])
              · exact useC (P := fun code => Run X (evT X) 5 0 code _ _ _) (r14 (T := evT X) hi2 (fun h => (hcz i h)) hci hcl (hfa i hi2) (hlt i hi2)) rfl
              apply Run.seq (fr' := pkFr c l w x i 0) (H' := [rowI l.length cs])
              · (refine ⟨0, ?_⟩; simp -implicitDefEqProofs [-getElem?_pos, List.getElem?_cons_zero, List.getElem?_cons_succ, exec, runOps, dstOk, wantedV, AM.step, evalT, evalO, evalArgs, evalParts, getF, putF, afterRegion, assignV, boxOf, newBox, hasIdsP, keepF, ofVal, ofCell, plen, pesz, callV, builtinV, lenV, binV, unV, arith, shiftI, loadV, storeV, putV, indexAddrV, live, upd, pget, pset, psetA, pagg, retag, retagP, byteAV, freezeP, freezeV, joinTags, joinTag, tags, ids, scalar, cellsLen, eqV, convV, faV, fvV, shiftBy, shiftRo, pfFr, pkFr, rowI])
              · apply Run.block_exit
                refine Run.loop_rule (σ := Nat) (fun k => k ≤ l.length) (fun k => pkFr c l w x i k) (fun _ => [rowI l.length cs]) (fun _ => ⟨.exit 2, pkFr c l w x i l.length ++ [(69, .bool false)], [rowI l.length cs]⟩) (fun k => l.length - k) ?_ 0 (Nat.zero_le _)
                intro k hk
                simp only
                by_cases hkl : k = l.length
                · right
                  refine ⟨?_, by simp⟩
                  subst hkl
                  (refine ⟨0, ?_⟩; simp -implicitDefEqProofs [-getElem?_pos, List.getElem?_cons_zero, List.getElem?_cons_succ, exec, runOps, dstOk, wantedV, AM.step, evalT, evalO, evalArgs, evalParts, getF, putF, afterRegion, assignV, boxOf, newBox, hasIdsP, keepF, ofVal, ofCell, plen, pesz, callV, builtinV, lenV, binV, unV, arith, shiftI, loadV, storeV, putV, indexAddrV, live, upd, pget, pset, psetA, pagg, retag, retagP, byteAV, freezeP, freezeV, joinTags, joinTag, tags, ids, scalar, cellsLen, eqV, convV, faV, fvV, shiftBy, shiftRo, pkFr, rowI])
                · left
                  have hk2 : k < l.length := by omega
                  have hkI : (k : Int) < (l.length : Int) := by omega
                  refine ⟨k + 1, by omega, ?_, trivial, by omega⟩
                  have w2 : IntKind.i64.wrap ((k : Int) + 1) = ((k + 1 : Nat) : Int) := by rw [wrap_i64 (by omega) (by omega)]; omega
                  apply Run.seq (fr' := pkFr c l w x i k ++ [(69, .bool true)]) (H' := [rowI l.length cs])
                  · (refine ⟨0, ?_⟩; simp -implicitDefEqProofs [-getElem?_pos, List.getElem?_cons_zero, List.getElem?_cons_succ, exec, runOps, dstOk, wantedV, AM.step, evalT, evalO, evalArgs, evalParts, getF, putF, afterRegion, assignV, boxOf, newBox, hasIdsP, keepF, ofVal, ofCell, plen, pesz, callV, builtinV, lenV, binV, unV, arith, shiftI, loadV, storeV, putV, indexAddrV, live, upd, pget, pset, psetA, pagg, retag, retagP, byteAV, freezeP, freezeV, joinTags, joinTag, tags, ids, scalar, cellsLen, eqV, convV, faV, fvV, shiftBy, shiftRo, pkFr, rowI, hkI])
                  apply Run.seq (fr' := pkFr c l w x i k ++ [(114, .bool false)]) (H' := [rowI l.length cs])
                  · apply Run.block
                    · exact useC (P := fun code => Run X (evT X) 5 0 code _ _ _) (r19 (T := evT X) hi2 hk2 hci (hge k hk2) hcl (hfa i hi2) (hfa k hk2) (fun hik hz => hinj i k hi2 hk2 hik hz) (fun hz d => hsh i k d hi2 hk2 hz)) rfl
                    · simp
                  · (refine ⟨0, ?_⟩; simp -implicitDefEqProofs [-getElem?_pos, List.getElem?_cons_zero, List.getElem?_cons_succ, exec, runOps, dstOk, wantedV, AM.step, evalT, evalO, evalArgs, evalParts, getF, putF, afterRegion, assignV, boxOf, newBox, hasIdsP, keepF, ofVal, ofCell, plen, pesz, callV, builtinV, lenV, binV, unV, arith, shiftI, loadV, storeV, putV, indexAddrV, live, upd, pget, pset, psetA, pagg, retag, retagP, byteAV, freezeP, freezeV, joinTags, joinTag, tags, ids, scalar, cellsLen, eqV, convV, faV, fvV, shiftBy, shiftRo, pkFr, rowI, w2])
            · simp
          · (refine ⟨0, ?_⟩; simp -implicitDefEqProofs [-getElem?_pos, List.getElem?_cons_zero, List.getElem?_cons_succ, exec, runOps, dstOk, wantedV, AM.step, evalT, evalO, evalArgs, evalParts, getF, putF, afterRegion, assignV, boxOf, newBox, hasIdsP, keepF, ofVal, ofCell, plen, pesz, callV, builtinV, lenV, binV, unV, arith, shiftI, loadV, storeV, putV, indexAddrV, live, upd, pget, pset, psetA, pagg, retag, retagP, byteAV, freezeP, freezeV, joinTags, joinTag, tags, ids, scalar, cellsLen, eqV, convV, faV, fvV, shiftBy, shiftRo, pkFr, pfFr, w1, rowI])
    apply Run.seq
    · (refine ⟨0, ?_⟩; conv => lhs; simp -implicitDefEqProofs [-getElem?_pos, List.getElem?_cons_zero, List.getElem?_cons_succ, exec, runOps, dstOk, wantedV, AM.step, evalT, evalO, evalArgs, evalParts, getF, putF, afterRegion, assignV, boxOf, newBox, hasIdsP, keepF, ofVal, ofCell, plen, pesz, callV, builtinV, lenV, binV, unV, arith, shiftI, loadV, storeV, putV, indexAddrV, live, upd, pget, pset, psetA, pagg, retag, retagP, byteAV, freezeP, freezeV, joinTags, joinTag, tags, ids, scalar, cellsLen, eqV, convV, faV, fvV, shiftBy, shiftRo, pfFr, hbs, hB, rowI, show min 8 IntKind.u16.bits = 8 from rfl])
    refine ⟨0, ?_⟩
    by_cases hww : w = true
    · have := hwh hww
      subst hww
      simp -implicitDefEqProofs [-getElem?_pos, List.getElem?_cons_zero, List.getElem?_cons_succ, exec, runOps, dstOk, wantedV, AM.step, evalT, evalO, evalArgs, evalParts, getF, putF, afterRegion, assignV, boxOf, newBox, hasIdsP, keepF, ofVal, ofCell, plen, pesz, callV, builtinV, lenV, binV, unV, arith, shiftI, loadV, storeV, putV, indexAddrV, live, upd, pget, pset, psetA, pagg, retag, retagP, byteAV, freezeP, freezeV, joinTags, joinTag, tags, ids, scalar, cellsLen, eqV, convV, faV, fvV, shiftBy, shiftRo, this, rowI]
    · have : w = false := by simpa using hww
      subst this
      simp -implicitDefEqProofs [-getElem?_pos, List.getElem?_cons_zero, List.getElem?_cons_succ, exec, runOps, dstOk, wantedV, AM.step, evalT, evalO, evalArgs, evalParts, getF, putF, afterRegion, assignV, boxOf, newBox, hasIdsP, keepF, ofVal, ofCell, plen, pesz, callV, builtinV, lenV, binV, unV, arith, shiftI, loadV, storeV, putV, indexAddrV, live, upd, pget, pset, psetA, pagg, retag, retagP, byteAV, freezeP, freezeV, joinTags, joinTag, tags, ids, scalar, cellsLen, eqV, convV, faV, fvV, shiftBy, shiftRo, rowI]
  · have heb : ((rcheckR l).2 != 0) = true := by simpa using he
    have eR : coR l = [] := by unfold coR; rw [if_neg he]
    have eO : coO l = nilI := by unfold coO; rw [if_neg he]
    rw [eR, eO] at hC
    rw [eO] at hK
    refine ⟨[nilI], 0, ?_⟩
    simp only [nilI] at hC hK ⊢
    simp -implicitDefEqProofs [-getElem?_pos, List.getElem?_cons_zero, List.getElem?_cons_succ, exec, runOps, dstOk, wantedV, AM.step, evalT, evalO, evalArgs, evalParts, getF, putF, afterRegion, assignV, boxOf, newBox, hasIdsP, keepF, ofVal, ofCell, plen, pesz, callV, builtinV, lenV, binV, unV, arith, shiftI, loadV, storeV, putV, indexAddrV, live, upd, pget, pset, psetA, pagg, retag, retagP, byteAV, freezeP, freezeV, joinTags, joinTag, tags, ids, scalar, cellsLen, eqV, convV, faV, fvV, shiftBy, shiftRo, hL, hC, hK, he, heb]

theorem pref_ev (c : Nat) (l : List Int) (x : Int) (h63 : l.length < 9223372036854775808) : Ev1 X 5 [.ro c (.pi .i64 l) 1, .int .u16 x] [] (.bool true, []) := by
  obtain ⟨code, hb, H, hr⟩ := pref_code c l x h63
  exact Ev1.plain (args := [.ro c (.pi .i64 l) 1, .int .u16 x]) (l := [.bool true]) (evT_below X) Try.func5 hb rfl rfl (by simp [gtag]) hr (.inr rfl) rfl rfl rfl

end Go.Proofs.Ytikleidhmekgnaa
