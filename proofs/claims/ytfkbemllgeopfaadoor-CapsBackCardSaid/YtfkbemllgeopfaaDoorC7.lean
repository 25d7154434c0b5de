/- Walks: a text looked for; the names of a word's bits. -/
import Derived.Test.YtfkbemllgeopfaaDoorC6
namespace Go.Proofs.YtfkbemllgeopfaaDoor
open Go.AM
set_option linter.unusedSimpArgs false
set_option linter.unusedVariables false

def ixR : List (List UInt8) → List UInt8 → Nat → Int
  | [], _, _ => -1
  | x :: r, s, i => if s = x then (i : Nat) else ixR r s (i + 1)

section
variable (cc : Nat) (l : List (List UInt8)) (s : List UInt8)

def ixFr (i : Nat) : AM.Frame := [(0, .ro cc (tx l) 1), (1, .str s), (7, .int .i64 (l.length : Nat)), (8, .int .i64 (i : Nat))]

set_option maxRecDepth 100000 in
theorem index_code (ha : l.length < 9223372036854775808) : ∃ code, Tryd.f26.body = some code ∧
    Tells (Rets fun fr H => fr = [(4, .int .i64 (ixR l s 0))] ∧ H = []) X (evT X) 26 0 code [(0, .ro cc (tx l) 1), (1, .str s)] [] := by
  refine ⟨_, rfl, ?_⟩
  apply Tells.seq
  · (refine ⟨0, ?_⟩; conv => lhs; simp (maxSteps := 2000000) -implicitDefEqProofs [-getElem?_pos, List.getElem?_cons_zero, List.getElem?_cons_succ, exec, runOps, dstOk, wantedV, AM.step, evalT, evalO, evalArgs, evalParts, getF, putF, afterRegion, assignV, boxOf, newBox, hasIdsP, keepF, ofVal, ofCell, plen, pesz, callV, builtinV, lenV, binV, unV, arith, shiftI, loadV, storeV, putV, indexAddrV, live, upd, pget, pset, psetA, pagg, retag, retagP, byteAV, freezeP, freezeV, joinTags, joinTag, tags, ids, scalar, cellsLen, eqV, convV, faV, fvV, shiftBy, shiftRo])
  apply Tells.assoc
  apply Tells.seq (fr' := ixFr cc l s 0) (H' := [])
  · (refine ⟨0, ?_⟩; simp (maxSteps := 2000000) -implicitDefEqProofs [-getElem?_pos, List.getElem?_cons_zero, List.getElem?_cons_succ, exec, runOps, dstOk, wantedV, AM.step, evalT, evalO, evalArgs, evalParts, getF, putF, afterRegion, assignV, boxOf, newBox, hasIdsP, keepF, ofVal, ofCell, plen, pesz, callV, builtinV, lenV, binV, unV, arith, shiftI, loadV, storeV, putV, indexAddrV, live, upd, pget, pset, psetA, pagg, retag, retagP, byteAV, freezeP, freezeV, joinTags, joinTag, tags, ids, scalar, cellsLen, eqV, convV, faV, fvV, shiftBy, shiftRo, ixFr, tx])
  apply Tells.blockThen (P := fun fr H => ixR l s 0 = -1 ∧ fr = ixFr cc l s l.length ++ [(9, .bool false)] ∧ H = [])
  · refine Tells.loop (σ := Nat) (fun i => i ≤ l.length ∧ ixR (l.drop i) s i = ixR l s 0) (fun i => ixFr cc l s i) (fun _ => []) (fun i => l.length - i) ?_ 0 ⟨by omega, rfl⟩
    rintro i ⟨hi, ht⟩
    by_cases he : i = l.length
    · right
      subst he
      refine ⟨⟨.exit 0, ixFr cc l s l.length ++ [(9, .bool false)], []⟩, .inl ⟨rfl, ?_, rfl, rfl⟩, by simp, ?_⟩
      · rw [← ht, List.drop_length]; rfl
      (refine ⟨0, ?_⟩; simp (maxSteps := 2000000) -implicitDefEqProofs [-getElem?_pos, List.getElem?_cons_zero, List.getElem?_cons_succ, exec, runOps, dstOk, wantedV, AM.step, evalT, evalO, evalArgs, evalParts, getF, putF, afterRegion, assignV, boxOf, newBox, hasIdsP, keepF, ofVal, ofCell, plen, pesz, callV, builtinV, lenV, binV, unV, arith, shiftI, loadV, storeV, putV, indexAddrV, live, upd, pget, pset, psetA, pagg, retag, retagP, byteAV, freezeP, freezeV, joinTags, joinTag, tags, ids, scalar, cellsLen, eqV, convV, faV, fvV, shiftBy, shiftRo, ixFr, tx])
    · have hlt : i < l.length := by omega
      have hltI : (i : Int) < (l.length : Int) := by omega
      obtain ⟨x, hx⟩ : ∃ x, l[i]? = some x := ⟨l[i], List.getElem?_eq_getElem hlt⟩
      have hxa := tx_at hx
      have hd : l.drop i = x :: l.drop (i + 1) := by
        rw [List.drop_eq_getElem_cons hlt]
        rw [List.getElem?_eq_getElem hlt] at hx
        rw [Option.some.inj hx]
      rw [hd] at ht
      rw [show ixR (x :: l.drop (i + 1)) s i = if s = x then (i : Int) else ixR (l.drop (i + 1)) s (i + 1) from rfl] at ht
      have w1 : IntKind.i64.wrap ((i : Int) + 1) = ((i + 1 : Nat) : Int) := by rw [wrap_i64 (by omega) (by omega)]; omega
      by_cases hst : s = x
      · right
        rw [if_pos hst] at ht
        refine ⟨⟨.ret, [(4, .int .i64 (i : Nat))], []⟩, .inr ⟨rfl, rfl, by rw [← ht], rfl⟩, by simp, ?_⟩
        (refine ⟨0, ?_⟩; simp (maxSteps := 2000000) -implicitDefEqProofs [-getElem?_pos, List.getElem?_cons_zero, List.getElem?_cons_succ, exec, runOps, dstOk, wantedV, AM.step, evalT, evalO, evalArgs, evalParts, getF, putF, afterRegion, assignV, boxOf, newBox, hasIdsP, keepF, ofVal, ofCell, plen, pesz, callV, builtinV, lenV, binV, unV, arith, shiftI, loadV, storeV, putV, indexAddrV, live, upd, pget, pset, psetA, pagg, retag, retagP, byteAV, freezeP, freezeV, joinTags, joinTag, tags, ids, scalar, cellsLen, eqV, convV, faV, fvV, shiftBy, shiftRo, ixFr, tx, hltI, hxa, strOp, hst])
      · left
        rw [if_neg hst] at ht
        refine ⟨i + 1, ⟨by omega, ht⟩, ?_, by omega⟩
        (refine ⟨0, ?_⟩; simp (maxSteps := 2000000) -implicitDefEqProofs [-getElem?_pos, List.getElem?_cons_zero, List.getElem?_cons_succ, exec, runOps, dstOk, wantedV, AM.step, evalT, evalO, evalArgs, evalParts, getF, putF, afterRegion, assignV, boxOf, newBox, hasIdsP, keepF, ofVal, ofCell, plen, pesz, callV, builtinV, lenV, binV, unV, arith, shiftI, loadV, storeV, putV, indexAddrV, live, upd, pget, pset, psetA, pagg, retag, retagP, byteAV, freezeP, freezeV, joinTags, joinTag, tags, ids, scalar, cellsLen, eqV, convV, faV, fvV, shiftBy, shiftRo, ixFr, tx, hltI, hxa, strOp, hst, w1])
  · rintro fr H ⟨hab, rfl, rfl⟩
    rw [hab]
    refine Tells.of (o := ⟨.ret, [(4, .int .i64 (-1))], []⟩) ?_ ⟨rfl, rfl, rfl⟩
    refine ⟨0, ?_⟩
    simp (maxSteps := 2000000) -implicitDefEqProofs [-getElem?_pos, List.getElem?_cons_zero, List.getElem?_cons_succ, exec, runOps, dstOk, wantedV, AM.step, evalT, evalO, evalArgs, evalParts, getF, putF, afterRegion, assignV, boxOf, newBox, hasIdsP, keepF, ofVal, ofCell, plen, pesz, callV, builtinV, lenV, binV, unV, arith, shiftI, loadV, storeV, putV, indexAddrV, live, upd, pget, pset, psetA, pagg, retag, retagP, byteAV, freezeP, freezeV, joinTags, joinTag, tags, ids, scalar, cellsLen, eqV, convV, faV, fvV, shiftBy, shiftRo, ixFr]

end

/-- an object of texts, as appending leaves it -/
def txO (l : List (List UInt8)) : Option AM.Obj := some { p := tx l, g := l.length, cap := .none, z := if l.length ≤ 1 then 0 else 1, row := true, ids := false, tg := 0 }

theorem bs_tx (H : AM.Heap) (s : List UInt8) : buildSliceV X H 32 1 [(0, .str s)] = some (.ro 1 (.pc [.str s]) 0, H) := by kernel_rfl

theorem app_tx {H : AM.Heap} {o : Nat} (l : List (List UInt8)) (x : List UInt8) (ho : H[o]? = some (txO l)) (h : l.length ≤ 100000) : appendV X H 32 (.sl o 0 l.length l.length) (.ro 1 (.pc [.str x]) 0) = some (.sl o 0 (l ++ [x]).length (l ++ [x]).length, upd H o (txO (l ++ [x]))) := by
  have hroom : roomOk X 9 (l.length + 1) = true := by
    simp [roomOk]
    omega
  have ho' : H[o]? = some (some ⟨.pc (l.map .str), l.length, .none, (if l.length ≤ 1 then 0 else 1), true, false, 0⟩) := ho
  simp only [appendV, und32, size9, zok9]
  simp [srcV, payB, plen, live, ho', txO, tx, psub, papp, pesz, ptag, joinTag, hroom]
  cases l with
  | nil => simp
  | cons y r =>
    have ht : List.take r.length (List.map AV.str r) = List.map AV.str r := by rw [List.take_of_length_le (by simp)]
    simp [ht]

def naFr (c : BitVec 32) (l : List (List UInt8)) (i : Nat) : AM.Frame := [(0, uB c), (3, .sl 1 0 l.length l.length), (4, .sl 2 0 25 0), (7, .int .i64 (i : Nat))]
def naH (l : List (List UInt8)) : AM.Heap := [txO [], txO l, some nmOb]

theorem nmOb_p : nmOb.p = .pc (nmL.map .str) := rfl
theorem nmOb_g : nmOb.g = 0 := rfl
theorem nmOb_ids : nmOb.ids = false := rfl
theorem nmOb_tg : nmOb.tg = 0 := rfl

theorem txO_nil : txO [] = some (rowOf (emptyRow X 9) .none 0) := by simp [txO, rowOf, emptyRow, tx]
theorem nm_at {i : Nat} (hi : i < 25) : (nmL.map AV.str)[i]? = some (.str (nm i)) := by
  have hl : i < nmL.length := hi
  rw [List.getElem?_map, List.getElem?_eq_getElem hl]
  unfold nm
  rw [dif_pos hl]; rfl
theorem nm_bit {i : Nat} (hi : 25 ≤ i) : nm i = 98 :: 105 :: 116 :: 45 :: dig i := by
  unfold nm
  rw [dif_neg (by show ¬ i < 25; omega)]; rfl

theorem nmsB_len (c : BitVec 32) : ∀ i, (nmsB c i).length ≤ i
  | 0 => by simp [nmsB]
  | i + 1 => by
    have := nmsB_len c i
    unfold nmsB
    split
    · simp; omega
    · omega

theorem shr_bit (c : BitVec 32) {i : Nat} (hi : i < 32) : Int.fdiv (c.toNat : Int) (2 ^ (min i 32)) = ((c >>> i).toNat : Nat) := by
  rw [Nat.min_eq_left (by omega), BitVec.toNat_ushiftRight, Nat.shiftRight_eq_div_pow]
  rw [show ((2 : Int) ^ i) = ((2 ^ i : Nat) : Int) by simp]
  rw [Int.fdiv_eq_ediv_of_nonneg _ (Int.natCast_nonneg _)]
  exact (Int.natCast_ediv _ _).symm

theorem wrap_and1 (x : BitVec 32) : IntKind.u32.wrap ((AM.bits .u32 (x.toNat : Int) &&& AM.bits .u32 1).toNat : Nat) = ((x &&& 1#32).toNat : Nat) := wrap_and x 1#32

theorem bit_and1 (c : BitVec 32) (i : Nat) : ((c >>> i) &&& 1#32).toNat = if c.getLsbD i then 1 else 0 := by
  rw [BitVec.toNat_and, BitVec.toNat_ushiftRight]
  show (c.toNat >>> i) &&& 1 = _
  rw [Nat.and_one_is_mod]
  unfold BitVec.getLsbD Nat.testBit
  rw [Nat.and_comm, Nat.and_one_is_mod]
  have : (c.toNat >>> i) % 2 < 2 := Nat.mod_lt _ (by omega)
  rcases (show (c.toNat >>> i) % 2 = 0 ∨ (c.toNat >>> i) % 2 = 1 by omega) with h | h <;> simp [h]

set_option maxRecDepth 100000 in
theorem names_code (c : BitVec 32) : ∃ code, Tryd.f10.body = some code ∧
    Run X (evT X) 10 0 code [(0, uB c)] [] ⟨.ret, [(2, .sl 1 0 (nmsB c 32).length (nmsB c 32).length)], naH (nmsB c 32)⟩ := by
  refine ⟨_, rfl, ?_⟩
  have hN := evT_eq (names_ev [some (rowOf (emptyRow X 9) .none 0), some (rowOf (emptyRow X 9) .none 0)])
  have hnl : nmL.length = 25 := rfl
  apply Run.seq
  · (refine ⟨0, ?_⟩; conv => lhs; simp (maxSteps := 2000000) -implicitDefEqProofs [-getElem?_pos, List.getElem?_cons_zero, List.getElem?_cons_succ, exec, runOps, dstOk, wantedV, AM.step, evalT, evalO, evalArgs, evalParts, getF, putF, afterRegion, assignV, boxOf, newBox, hasIdsP, keepF, ofVal, ofCell, plen, pesz, callV, builtinV, lenV, binV, unV, arith, shiftI, loadV, storeV, putV, indexAddrV, live, upd, pget, pset, psetA, pagg, retag, retagP, byteAV, freezeP, freezeV, joinTags, joinTag, tags, ids, scalar, cellsLen, eqV, convV, faV, fvV, shiftBy, shiftRo, uB])
  apply Run.seq
  · (refine ⟨0, ?_⟩; conv => lhs; simp (maxSteps := 2000000) -implicitDefEqProofs [-getElem?_pos, List.getElem?_cons_zero, List.getElem?_cons_succ, exec, runOps, dstOk, wantedV, AM.step, evalT, evalO, evalArgs, evalParts, getF, putF, afterRegion, assignV, boxOf, newBox, hasIdsP, keepF, ofVal, ofCell, plen, pesz, callV, builtinV, lenV, binV, unV, arith, shiftI, loadV, storeV, putV, indexAddrV, live, upd, pget, pset, psetA, pagg, retag, retagP, byteAV, freezeP, freezeV, joinTags, joinTag, tags, ids, scalar, cellsLen, eqV, convV, faV, fvV, shiftBy, shiftRo, assignV])
  apply Run.seq (fr' := [(0, uB c), (3, .sl 1 0 0 0), (4, .sl 2 0 25 0)]) (H' := naH [])
  · (refine ⟨0, ?_⟩; simp (maxSteps := 2000000) -implicitDefEqProofs [-getElem?_pos, List.getElem?_cons_zero, List.getElem?_cons_succ, exec, runOps, dstOk, wantedV, AM.step, evalT, evalO, evalArgs, evalParts, getF, putF, afterRegion, assignV, boxOf, newBox, hasIdsP, keepF, ofVal, ofCell, plen, pesz, callV, builtinV, lenV, binV, unV, arith, shiftI, loadV, storeV, putV, indexAddrV, live, upd, pget, pset, psetA, pagg, retag, retagP, byteAV, freezeP, freezeV, joinTags, joinTag, tags, ids, scalar, cellsLen, eqV, convV, faV, fvV, shiftBy, shiftRo, uB, hN, naH, txO_nil, assignV])
  apply Run.seq (fr' := naFr c (nmsB c 32) 32 ++ [(8, .bool false)]) (H' := naH (nmsB c 32))
  · apply Run.seq (fr' := naFr c [] 0) (H' := naH [])
    · (refine ⟨0, ?_⟩; simp (maxSteps := 2000000) -implicitDefEqProofs [-getElem?_pos, List.getElem?_cons_zero, List.getElem?_cons_succ, exec, runOps, dstOk, wantedV, AM.step, evalT, evalO, evalArgs, evalParts, getF, putF, afterRegion, assignV, boxOf, newBox, hasIdsP, keepF, ofVal, ofCell, plen, pesz, callV, builtinV, lenV, binV, unV, arith, shiftI, loadV, storeV, putV, indexAddrV, live, upd, pget, pset, psetA, pagg, retag, retagP, byteAV, freezeP, freezeV, joinTags, joinTag, tags, ids, scalar, cellsLen, eqV, convV, faV, fvV, shiftBy, shiftRo, naFr, naH])
    apply Run.block_exit
    refine Run.loop_rule (σ := Nat) (fun i => i ≤ 32) (fun i => naFr c (nmsB c i) i) (fun i => naH (nmsB c i)) (fun _ => ⟨.exit 0, naFr c (nmsB c 32) 32 ++ [(8, .bool false)], naH (nmsB c 32)⟩) (fun i => 32 - i) ?_ 0 (by omega)
    intro i hi
    by_cases h32 : i = 32
    · right
      refine ⟨?_, by simp⟩
      subst h32
      (refine ⟨0, ?_⟩; simp (maxSteps := 2000000) -implicitDefEqProofs [-getElem?_pos, List.getElem?_cons_zero, List.getElem?_cons_succ, exec, runOps, dstOk, wantedV, AM.step, evalT, evalO, evalArgs, evalParts, getF, putF, afterRegion, assignV, boxOf, newBox, hasIdsP, keepF, ofVal, ofCell, plen, pesz, callV, builtinV, lenV, binV, unV, arith, shiftI, loadV, storeV, putV, indexAddrV, live, upd, pget, pset, psetA, pagg, retag, retagP, byteAV, freezeP, freezeV, joinTags, joinTag, tags, ids, scalar, cellsLen, eqV, convV, faV, fvV, shiftBy, shiftRo, naFr])
    · left
      have hlt : i < 32 := by omega
      have hltI : (i : Int) < 32 := by omega
      have hsh : (c.toNat : Int) >>> i = ((c >>> i).toNat : Nat) := by rw [BitVec.toNat_ushiftRight]; rfl
      have hi0 : ¬ (i : Int) < 0 := by omega
      have hsd := shr_bit c hlt
      have hmb : IntKind.u32.bits = 32 := rfl
      have hb1 := bit_and1 c i
      have w1 : IntKind.i64.wrap ((i : Int) + 1) = ((i + 1 : Nat) : Int) := by rw [wrap_i64 (by omega) (by omega)]; omega
      refine ⟨i + 1, by omega, ?_, rfl, by omega⟩
      have hlen := nmsB_len c i
      by_cases hb : c.getLsbD i = true
      · have hA := app_tx (H := naH (nmsB c i)) (o := 1) (nmsB c i) (nm i) rfl (by omega)
        rw [show nmsB c (i + 1) = nmsB c i ++ [nm i] by rw [nmsB, if_pos hb]]
        rw [if_pos hb] at hb1
        generalize nmsB c i = l at *
        have hz : IntKind.u32.wrap ((AM.bits .u32 ((c >>> i).toNat : Int) &&& AM.bits .u32 1).toNat : Nat) = 1 := by rw [wrap_and1, hb1]; rfl
        by_cases h25 : i < 25
        · have hat := nm_at h25
          have h25I : (i : Int) < 25 := by omega
          unfold naH at *
          (refine ⟨0, ?_⟩; simp (maxSteps := 2000000) -implicitDefEqProofs [-getElem?_pos, List.getElem?_cons_zero, List.getElem?_cons_succ, exec, runOps, dstOk, wantedV, AM.step, evalT, evalO, evalArgs, evalParts, getF, putF, afterRegion, assignV, boxOf, newBox, hasIdsP, keepF, ofVal, ofCell, plen, pesz, callV, builtinV, lenV, binV, unV, arith, shiftI, loadV, storeV, putV, indexAddrV, live, upd, pget, pset, psetA, pagg, retag, retagP, byteAV, freezeP, freezeV, joinTags, joinTag, tags, ids, scalar, cellsLen, eqV, convV, faV, fvV, shiftBy, shiftRo, uB, naFr, hltI, hsh, hsd, hi0, -BitVec.toNat_ushiftRight, -BitVec.toNat_and, hmb, hz, w1, h25I, hA, bs_tx, hat, hnl, nmOb_p, nmOb_g, nmOb_ids, nmOb_tg, upd])
        · have hI := evT_eq (itoa_ev hlt (naH l))
          have h25I : ¬ (i : Int) < 25 := by omega
          have hdl : 4 + (dig i).length ≤ 9223372036854775807 := by unfold dig; split <;> simp
          rw [nm_bit (by omega)] at hA ⊢
          unfold naH at *
          (refine ⟨0, ?_⟩; simp (maxSteps := 2000000) -implicitDefEqProofs [-getElem?_pos, List.getElem?_cons_zero, List.getElem?_cons_succ, exec, runOps, dstOk, wantedV, AM.step, evalT, evalO, evalArgs, evalParts, getF, putF, afterRegion, assignV, boxOf, newBox, hasIdsP, keepF, ofVal, ofCell, plen, pesz, callV, builtinV, lenV, binV, unV, arith, shiftI, loadV, storeV, putV, indexAddrV, live, upd, pget, pset, psetA, pagg, retag, retagP, byteAV, freezeP, freezeV, joinTags, joinTag, tags, ids, scalar, cellsLen, eqV, convV, faV, fvV, shiftBy, shiftRo, uB, naFr, hltI, hsh, hsd, hi0, -BitVec.toNat_ushiftRight, -BitVec.toNat_and, hmb, hz, w1, h25I, hA, bs_tx, hI, hnl, nmOb_p, nmOb_g, nmOb_ids, nmOb_tg, upd, strOp, hdl])
      · rw [show nmsB c (i + 1) = nmsB c i by rw [nmsB, if_neg hb]]
        rw [if_neg hb] at hb1
        have hz : IntKind.u32.wrap ((AM.bits .u32 ((c >>> i).toNat : Int) &&& AM.bits .u32 1).toNat : Nat) = 0 := by rw [wrap_and1, hb1]; rfl
        (refine ⟨0, ?_⟩; simp (maxSteps := 2000000) -implicitDefEqProofs [-getElem?_pos, List.getElem?_cons_zero, List.getElem?_cons_succ, exec, runOps, dstOk, wantedV, AM.step, evalT, evalO, evalArgs, evalParts, getF, putF, afterRegion, assignV, boxOf, newBox, hasIdsP, keepF, ofVal, ofCell, plen, pesz, callV, builtinV, lenV, binV, unV, arith, shiftI, loadV, storeV, putV, indexAddrV, live, upd, pget, pset, psetA, pagg, retag, retagP, byteAV, freezeP, freezeV, joinTags, joinTag, tags, ids, scalar, cellsLen, eqV, convV, faV, fvV, shiftBy, shiftRo, uB, naFr, hltI, hsh, hsd, hi0, -BitVec.toNat_ushiftRight, -BitVec.toNat_and, hmb, hz, w1])
  refine ⟨0, ?_⟩
  simp (maxSteps := 2000000) -implicitDefEqProofs [-getElem?_pos, List.getElem?_cons_zero, List.getElem?_cons_succ, exec, runOps, dstOk, wantedV, AM.step, evalT, evalO, evalArgs, evalParts, getF, putF, afterRegion, assignV, boxOf, newBox, hasIdsP, keepF, ofVal, ofCell, plen, pesz, callV, builtinV, lenV, binV, unV, arith, shiftI, loadV, storeV, putV, indexAddrV, live, upd, pget, pset, psetA, pagg, retag, retagP, byteAV, freezeP, freezeV, joinTags, joinTag, tags, ids, scalar, cellsLen, eqV, convV, faV, fvV, shiftBy, shiftRo, naFr]

/-- the object that comes back -/
def txF (l : List (List UInt8)) : Option AM.Obj := some { p := tx l, g := 0, cap := .none, z := if l.length ≤ 1 then 0 else 1, row := true, ids := false, tg := 0 }

theorem ids_strs : ∀ l : List (List UInt8), idsL (l.map AV.str) = []
  | [] => rfl
  | a :: r => by simp only [List.map_cons, idsL, ids, ids_strs r]; rfl
theorem tags_strs : ∀ l : List (List UInt8), tagsL (l.map AV.str) = []
  | [] => rfl
  | a :: r => by simp only [List.map_cons, tagsL, tags, tags_strs r]; rfl
theorem ids_tx (l : List (List UInt8)) : ids (tx l) = [] := ids_strs l
theorem tags_tx (l : List (List UInt8)) : tags (tx l) = [] := tags_strs l

theorem nms_ev (c : BitVec 32) (H : AM.Heap) : Ev1 X 10 [uB c] H (.sl H.length 0 (nmsB c 32).length 0, H ++ [txF (nmsB c 32)]) := by
  obtain ⟨code, hb, hr⟩ := names_code c
  have := Ev1.freshQ (H := H) (args := [uB c]) (l := [.sl 1 0 (nmsB c 32).length (nmsB c 32).length]) (o := 1) (g := (nmsB c 32).length) (ob := ⟨tx (nmsB c 32), (nmsB c 32).length, .none, (if (nmsB c 32).length ≤ 1 then 0 else 1), true, false, 0⟩)
    (evT_below X) Tryd.func10 hb rfl rfl (by simp [gtag]) hr (.inr rfl) rfl rfl rfl (by simp [live, naH, txO]) rfl (ids_tx _) (tags_tx _) rfl rfl
  simpa [resultV, ren, AM.fresh, txF] using this

theorem ixT_ev {H : AM.Heap} {a : AV} {l : List (List UInt8)} {s : List UInt8} (h : payOf H a = some (tx l)) (hl : l.length < 9223372036854775808) : Ev1 X 26 [a, .str s] H (.int .i64 (ixR l s 0), H) := by
  obtain ⟨cc, x, hx⟩ := args_pay (C := X) (f := 26) (i := 0) rfl h (args_flat (i := 1) (a := .str s) rfl rfl (args_nil 2))
  obtain ⟨code, hb, ⟨ex, fr, H1⟩, ⟨he, hfr, hH⟩, hr⟩ := index_code cc l s hl
  simp only at he hfr hH
  subst he; subst hfr; subst hH
  exact Ev1.plain (l := [.int .i64 (ixR l s 0)]) (evT_below X) Tryd.func26 hb hx (by simp [idsL, ids, ids_tx]) (by simp [gtag]) hr (.inr rfl) rfl rfl rfl

theorem same_ev {H : AM.Heap} {a b : AV} {l m : List (List UInt8)} (h : payOf H a = some (tx l)) (h2 : payOf H b = some (tx m)) (hl : l.length < 9223372036854775808) : Ev1 X 11 [a, b] H (.bool (l == m), H) := by
  obtain ⟨c2, x2, hx2⟩ := args_pay (C := X) (f := 11) (i := 1) rfl h2 (args_nil 2)
  obtain ⟨cc, x, hx⟩ := args_pay (C := X) (f := 11) (i := 0) rfl h hx2
  obtain ⟨code, hb, ⟨ex, fr, H1⟩, ⟨he, hfr, hH⟩, hr⟩ := same_code cc c2 l m hl
  simp only at he hfr hH
  subst he; subst hfr; subst hH
  exact Ev1.plain (l := [.bool (l == m)]) (evT_below X) Tryd.func11 hb hx (by simp [idsL, ids, ids_tx]) (by simp [gtag]) hr (.inr rfl) rfl rfl rfl

end Go.Proofs.YtfkbemllgeopfaaDoor
