/- Walks: Of; plain: what names tell. -/
import Derived.Test.YtfkbemllgeopfaaDoorC7
namespace Go.Proofs.YtfkbemllgeopfaaDoor
open Go.AM
set_option linter.unusedSimpArgs false
set_option linter.unusedVariables false

/-- the names of the first i bits -/
def nmsA (i : Nat) : List (List UInt8) := (List.range i).map nm

theorem nmsA_succ (i : Nat) : nmsA (i + 1) = nmsA i ++ [nm i] := by simp [nmsA, List.range_succ]
theorem nmsA_len (i : Nat) : (nmsA i).length = i := by simp [nmsA]
theorem nmsA_25 : nmsA 25 = nmL := by kernel_rfl

/-- what is told of names from the k-th on, the word so far c -/
def ofR : List (List UInt8) → Nat → BitVec 32 → BitVec 32 × Int × Int
  | [], _, c => (c, 0, 0)
  | s :: r, k, c => if ixR (nmsA 32) s 0 < 0 then (0, 2, (k : Nat)) else ofR r (k + 1) (c ||| (1#32 <<< (ixR (nmsA 32) s 0).toNat))

def fltV (e a : Int) : AV := .agg (.pc [.int .i64 e, .int .i64 a])
def fltO (e a : Int) : Option AM.Obj := some ⟨.pc [.int .i64 e, .int .i64 a], 0, some 2, 1, false, true, 0⟩

/-- the list of all names, as appending leaves it -/
def alO (i : Nat) : Option AM.Obj := some ⟨tx (nmsA i), i - 25, if i = 25 then some 25 else .none, 1, true, false, 0⟩

theorem app_al {i : Nat} (h1 : 25 ≤ i) (h2 : i < 32) (H : AM.Heap) (o : Nat) (ho : H[o]? = some (alO i)) : appendV X H 32 (.sl o 0 i (i - 25)) (.ro 1 (.pc [.str (nm i)]) 0) = some (.sl o 0 (i + 1) (i + 1 - 25), upd H o (alO (i + 1))) := by
  have hroom : roomOk X 9 (i + 1) = true := by
    simp [roomOk]
    omega
  have ho' : H[o]? = some (some ⟨.pc ((nmsA i).map .str), i - 25, if i = 25 then some 25 else .none, 1, true, false, 0⟩) := ho
  have hl := nmsA_len i
  have hn : ¬ i = 0 := by omega
  have h25 : ¬ i + 1 = 25 := by omega
  have hg : i - 25 + 1 = i + 1 - 25 := by omega
  have ht : List.take i ((nmsA i).map AV.str) = (nmsA i).map AV.str := by rw [List.take_of_length_le (by simp [hl])]
  simp only [appendV, und32, size9, zok9]
  simp [srcV, payB, plen, live, ho', alO, tx, psub, papp, pesz, ptag, joinTag, hroom, hl, hn, h25, hg, ht, nmsA_succ]
  by_cases h : i = 25
  · simp [h]
  · simp [h]

theorem bd29 (x y : Int) : buildV X 29 [(0, .int .i64 x), (1, .int .i64 y)] = some (.agg (.pc [.int .i64 x, .int .i64 y])) := by kernel_rfl
theorem bd29n : buildV X 29 [] = some (.agg (.pc [.int .i64 0, .int .i64 0])) := by kernel_rfl

section
variable (cc : Nat) (l : List (List UInt8))

def ofFr0 (i : Nat) : AM.Frame := [(0, .ro cc (tx l) 1), (3, .ptr 0 0 0 0), (4, uB 0#32), (5, .sl 1 0 i (i - 25)), (6, .int .i64 (i : Nat))]
def ofFr (k : Nat) (c : BitVec 32) : AM.Frame := [(3, .ptr 0 0 0 0), (4, uB c), (5, .sl 1 0 32 7), (21, .ro cc (tx l) 1), (22, .int .i64 (l.length : Nat)), (23, .int .i64 (k : Nat))]

theorem wrap_or (x y : BitVec 32) : IntKind.u32.wrap ((AM.bits .u32 (x.toNat : Int) ||| AM.bits .u32 (y.toNat : Int)).toNat : Nat) = ((x ||| y).toNat : Nat) := by
  rw [bits_uB, bits_uB]
  exact wrap_uB (x ||| y)

theorem shl_one {k : Nat} (hk : k < 32) : IntKind.u32.wrap (1 * 2 ^ (min k 32)) = ((1#32 <<< k).toNat : Nat) := by
  have : List.all (List.range 32) (fun k => IntKind.u32.wrap (1 * 2 ^ (min k 32)) == ((1#32 <<< k).toNat : Nat)) = true := by kernel_rfl
  have := List.all_eq_true.1 this k (List.mem_range.2 hk)
  simpa using this

theorem ixR_lt : ∀ (l : List (List UInt8)) (s : List UInt8) (i : Nat), ixR l s i < 0 ∨ (∃ j : Nat, ixR l s i = (j : Int) ∧ j < i + l.length)
  | [], s, i => .inl (by simp [ixR])
  | x :: r, s, i => by
    unfold ixR
    split
    · exact .inr ⟨i, rfl, by simp⟩
    · rcases ixR_lt r s (i + 1) with h | ⟨j, h, hj⟩
      · exact .inl h
      · exact .inr ⟨j, h, by simp; omega⟩

set_option maxRecDepth 100000 in
theorem of_code (hl : l.length < 9223372036854775808) : ∃ code, Tryd.f9.body = some code ∧
    Tells (Rets fun fr H => fr = [(2, uB (ofR l 0 0#32).1), (3, .ptr 0 0 0 0)] ∧ H = [fltO (ofR l 0 0#32).2.1 (ofR l 0 0#32).2.2, alO 32]) X (evT X) 9 0 code [(0, .ro cc (tx l) 1)] [] := by
  refine ⟨_, rfl, ?_⟩
  have hN := evT_eq (names_ev [fltO 0 0])
  have hal : alO 25 = some nmOb := by unfold alO; rw [nmsA_25]; rfl
  apply Tells.seq
  · (refine ⟨0, ?_⟩; conv => lhs; simp (maxSteps := 2000000) -implicitDefEqProofs [-getElem?_pos, List.getElem?_cons_zero, List.getElem?_cons_succ, exec, runOps, dstOk, wantedV, AM.step, evalT, evalO, evalArgs, evalParts, getF, putF, afterRegion, assignV, boxOf, newBox, hasIdsP, keepF, ofVal, ofCell, plen, pesz, callV, builtinV, lenV, binV, unV, arith, shiftI, loadV, storeV, putV, indexAddrV, live, upd, pget, pset, psetA, pagg, retag, retagP, byteAV, freezeP, freezeV, joinTags, joinTag, tags, ids, scalar, cellsLen, eqV, convV, faV, fvV, shiftBy, shiftRo])
  apply Tells.seq
  · (refine ⟨0, ?_⟩; conv => lhs; simp (maxSteps := 2000000) -implicitDefEqProofs [-getElem?_pos, List.getElem?_cons_zero, List.getElem?_cons_succ, exec, runOps, dstOk, wantedV, AM.step, evalT, evalO, evalArgs, evalParts, getF, putF, afterRegion, assignV, boxOf, newBox, hasIdsP, keepF, ofVal, ofCell, plen, pesz, callV, builtinV, lenV, binV, unV, arith, shiftI, loadV, storeV, putV, indexAddrV, live, upd, pget, pset, psetA, pagg, retag, retagP, byteAV, freezeP, freezeV, joinTags, joinTag, tags, ids, scalar, cellsLen, eqV, convV, faV, fvV, shiftBy, shiftRo])
  apply Tells.seq (fr' := [(0, .ro cc (tx l) 1), (3, .ptr 0 0 0 0), (4, uB 0#32), (5, .sl 1 0 25 0)]) (H' := [fltO 0 0, alO 25])
  · rw [hal]
    simp only [fltO] at hN
    (refine ⟨0, ?_⟩; simp (maxSteps := 2000000) -implicitDefEqProofs [-getElem?_pos, List.getElem?_cons_zero, List.getElem?_cons_succ, exec, runOps, dstOk, wantedV, AM.step, evalT, evalO, evalArgs, evalParts, getF, putF, afterRegion, assignV, boxOf, newBox, hasIdsP, keepF, ofVal, ofCell, plen, pesz, callV, builtinV, lenV, binV, unV, arith, shiftI, loadV, storeV, putV, indexAddrV, live, upd, pget, pset, psetA, pagg, retag, retagP, byteAV, freezeP, freezeV, joinTags, joinTag, tags, ids, scalar, cellsLen, eqV, convV, faV, fvV, shiftBy, shiftRo, uB, hN, fltO, assignV])
  have hlc : ((nmsA 32).length) = 32 := nmsA_len 32
  apply Tells.seq (fr' := ofFr0 cc l 32 ++ [(12, .bool false)]) (H' := [fltO 0 0, alO 32])
  · apply Run.seq (fr' := ofFr0 cc l 25) (H' := [fltO 0 0, alO 25])
    · (refine ⟨0, ?_⟩; simp (maxSteps := 2000000) -implicitDefEqProofs [-getElem?_pos, List.getElem?_cons_zero, List.getElem?_cons_succ, exec, runOps, dstOk, wantedV, AM.step, evalT, evalO, evalArgs, evalParts, getF, putF, afterRegion, assignV, boxOf, newBox, hasIdsP, keepF, ofVal, ofCell, plen, pesz, callV, builtinV, lenV, binV, unV, arith, shiftI, loadV, storeV, putV, indexAddrV, live, upd, pget, pset, psetA, pagg, retag, retagP, byteAV, freezeP, freezeV, joinTags, joinTag, tags, ids, scalar, cellsLen, eqV, convV, faV, fvV, shiftBy, shiftRo, ofFr0])
    apply Run.block_exit
    refine Run.loop_rule (σ := Nat) (fun i => 25 ≤ i ∧ i ≤ 32) (fun i => ofFr0 cc l i) (fun i => [fltO 0 0, alO i]) (fun _ => ⟨.exit 0, ofFr0 cc l 32 ++ [(12, .bool false)], [fltO 0 0, alO 32]⟩) (fun i => 32 - i) ?_ 25 ⟨by omega, by omega⟩
    rintro i ⟨h25, hi⟩
    by_cases h32 : i = 32
    · right
      refine ⟨?_, by simp⟩
      subst h32
      (refine ⟨0, ?_⟩; simp (maxSteps := 2000000) -implicitDefEqProofs [-getElem?_pos, List.getElem?_cons_zero, List.getElem?_cons_succ, exec, runOps, dstOk, wantedV, AM.step, evalT, evalO, evalArgs, evalParts, getF, putF, afterRegion, assignV, boxOf, newBox, hasIdsP, keepF, ofVal, ofCell, plen, pesz, callV, builtinV, lenV, binV, unV, arith, shiftI, loadV, storeV, putV, indexAddrV, live, upd, pget, pset, psetA, pagg, retag, retagP, byteAV, freezeP, freezeV, joinTags, joinTag, tags, ids, scalar, cellsLen, eqV, convV, faV, fvV, shiftBy, shiftRo, ofFr0, uB])
    · left
      have hlt : i < 32 := by omega
      have hltI : (i : Int) < 32 := by omega
      have w1 : IntKind.i64.wrap ((i : Int) + 1) = ((i + 1 : Nat) : Int) := by rw [wrap_i64 (by omega) (by omega)]; omega
      refine ⟨i + 1, ⟨by omega, by omega⟩, ?_, rfl, by omega⟩
      have hA := app_al h25 hlt [fltO 0 0, alO i] 1 rfl
      have hI := evT_eq (itoa_ev hlt [fltO 0 0, alO i])
      have hdl : 4 + (dig i).length ≤ 9223372036854775807 := by unfold dig; split <;> simp
      rw [nm_bit h25] at hA
      (refine ⟨0, ?_⟩; simp (maxSteps := 2000000) -implicitDefEqProofs [-getElem?_pos, List.getElem?_cons_zero, List.getElem?_cons_succ, exec, runOps, dstOk, wantedV, AM.step, evalT, evalO, evalArgs, evalParts, getF, putF, afterRegion, assignV, boxOf, newBox, hasIdsP, keepF, ofVal, ofCell, plen, pesz, callV, builtinV, lenV, binV, unV, arith, shiftI, loadV, storeV, putV, indexAddrV, live, upd, pget, pset, psetA, pagg, retag, retagP, byteAV, freezeP, freezeV, joinTags, joinTag, tags, ids, scalar, cellsLen, eqV, convV, faV, fvV, shiftBy, shiftRo, uB, ofFr0, hltI, hI, strOp, hdl, bs_tx, hA, w1, upd])
  apply Tells.assoc
  apply Tells.seq (fr' := ofFr cc l 0 0#32) (H' := [fltO 0 0, alO 32])
  · (refine ⟨0, ?_⟩; simp (maxSteps := 2000000) -implicitDefEqProofs [-getElem?_pos, List.getElem?_cons_zero, List.getElem?_cons_succ, exec, runOps, dstOk, wantedV, AM.step, evalT, evalO, evalArgs, evalParts, getF, putF, afterRegion, assignV, boxOf, newBox, hasIdsP, keepF, ofVal, ofCell, plen, pesz, callV, builtinV, lenV, binV, unV, arith, shiftI, loadV, storeV, putV, indexAddrV, live, upd, pget, pset, psetA, pagg, retag, retagP, byteAV, freezeP, freezeV, joinTags, joinTag, tags, ids, scalar, cellsLen, eqV, convV, faV, fvV, shiftBy, shiftRo, ofFr0, ofFr, tx, uB])
  have h32t : List.take 32 ((nmsA 32).map AV.str) = (nmsA 32).map AV.str := by rw [List.take_of_length_le (by simp [hlc])]
  apply Tells.blockThen (P := fun fr H => fr = ofFr cc l l.length (ofR l 0 0#32).1 ++ [(24, .bool false)] ∧ H = [fltO 0 0, alO 32] ∧ (ofR l 0 0#32).2 = (0, 0))
  · refine Tells.loop (σ := Nat × BitVec 32) (fun s => s.1 ≤ l.length ∧ ofR (l.drop s.1) s.1 s.2 = ofR l 0 0#32) (fun s => ofFr cc l s.1 s.2) (fun _ => [fltO 0 0, alO 32]) (fun s => l.length - s.1) ?_ (0, 0#32) ⟨by simp, rfl⟩
    rintro ⟨k, c⟩ ⟨hk, hf⟩
    simp only at hk hf ⊢
    by_cases he : k = l.length
    · right
      subst he
      rw [List.drop_length] at hf
      refine ⟨⟨.exit 2, ofFr cc l l.length (ofR l 0 0#32).1 ++ [(24, .bool false)], [fltO 0 0, alO 32]⟩, .inl ⟨rfl, rfl, rfl, ?_⟩, by simp, ?_⟩
      · rw [← hf]; rfl
      · rw [show (ofR l 0 0#32).1 = c by rw [← hf]; rfl]
        (refine ⟨0, ?_⟩; simp (maxSteps := 2000000) -implicitDefEqProofs [-getElem?_pos, List.getElem?_cons_zero, List.getElem?_cons_succ, exec, runOps, dstOk, wantedV, AM.step, evalT, evalO, evalArgs, evalParts, getF, putF, afterRegion, assignV, boxOf, newBox, hasIdsP, keepF, ofVal, ofCell, plen, pesz, callV, builtinV, lenV, binV, unV, arith, shiftI, loadV, storeV, putV, indexAddrV, live, upd, pget, pset, psetA, pagg, retag, retagP, byteAV, freezeP, freezeV, joinTags, joinTag, tags, ids, scalar, cellsLen, eqV, convV, faV, fvV, shiftBy, shiftRo, ofFr, uB])
    · have hlt : k < l.length := by omega
      have hltI : (k : Int) < (l.length : Int) := by omega
      obtain ⟨s, hs⟩ : ∃ s, l[k]? = some s := ⟨l[k], List.getElem?_eq_getElem hlt⟩
      have hsa := tx_at hs
      have hd : l.drop k = s :: l.drop (k + 1) := by
        rw [List.drop_eq_getElem_cons hlt]
        rw [List.getElem?_eq_getElem hlt] at hs
        rw [Option.some.inj hs]
      rw [hd, show ofR (s :: l.drop (k + 1)) k c = if ixR (nmsA 32) s 0 < 0 then (0, 2, (k : Int)) else ofR (l.drop (k + 1)) (k + 1) (c ||| (1#32 <<< (ixR (nmsA 32) s 0).toNat)) from rfl] at hf
      have hX := evT_eq (ixT_ev (H := [fltO 0 0, alO 32]) (a := .sl 1 0 32 7) (l := nmsA 32) (s := s) (by simp [payOf, live, alO, tx, psub, hlc, h32t]) (by omega))
      have w1 : IntKind.i64.wrap ((k : Int) + 1) = ((k + 1 : Nat) : Int) := by rw [wrap_i64 (by omega) (by omega)]; omega
      rcases ixR_lt (nmsA 32) s 0 with hn | ⟨j, hj, hj2⟩
      · right
        rw [if_pos hn] at hf
        refine ⟨⟨.ret, [(2, uB 0#32), (3, .ptr 0 0 0 0)], [fltO 2 k, alO 32]⟩, .inr ⟨rfl, rfl, by simp only [← hf]; rfl, by simp only [← hf]⟩, by simp, ?_⟩
        generalize ixR (nmsA 32) s 0 = z at *
        generalize alO 32 = oo at *
        simp only [fltO] at hX
        (refine ⟨0, ?_⟩; simp (maxSteps := 2000000) -implicitDefEqProofs [-getElem?_pos, List.getElem?_cons_zero, List.getElem?_cons_succ, exec, runOps, dstOk, wantedV, AM.step, evalT, evalO, evalArgs, evalParts, getF, putF, afterRegion, assignV, boxOf, newBox, hasIdsP, keepF, ofVal, ofCell, plen, pesz, callV, builtinV, lenV, binV, unV, arith, shiftI, loadV, storeV, putV, indexAddrV, live, upd, pget, pset, psetA, pagg, retag, retagP, byteAV, freezeP, freezeV, joinTags, joinTag, tags, ids, scalar, cellsLen, eqV, convV, faV, fvV, shiftBy, shiftRo, ofFr, uB, tx, hltI, hsa, hX, hn, fltO, bd29, flatCells, splice, scalars, scalar])
      · left
        rw [hj] at hf hX
        rw [if_neg (by omega), Int.toNat_natCast] at hf
        have hj32 : j < 32 := by omega
        refine ⟨(k + 1, c ||| (1#32 <<< j)), ⟨by simp only; omega, hf⟩, ?_, by simp only; omega⟩
        have hsh := shl_one hj32
        have hj0 : ¬ (j : Int) < 0 := by omega
        have hmb : IntKind.u32.bits = 32 := rfl
        generalize alO 32 = oo at *
        simp only [fltO] at hX
        (refine ⟨0, ?_⟩; simp (maxSteps := 2000000) -implicitDefEqProofs [-getElem?_pos, List.getElem?_cons_zero, List.getElem?_cons_succ, exec, runOps, dstOk, wantedV, AM.step, evalT, evalO, evalArgs, evalParts, getF, putF, afterRegion, assignV, boxOf, newBox, hasIdsP, keepF, ofVal, ofCell, plen, pesz, callV, builtinV, lenV, binV, unV, arith, shiftI, loadV, storeV, putV, indexAddrV, live, upd, pget, pset, psetA, pagg, retag, retagP, byteAV, freezeP, freezeV, joinTags, joinTag, tags, ids, scalar, cellsLen, eqV, convV, faV, fvV, shiftBy, shiftRo, ofFr, uB, tx, hltI, hsa, hX, fltO, hmb, hsh, wrap_or, w1, hj0, -BitVec.toNat_or, -BitVec.toNat_shiftLeft])
        rw [Int.one_mul] at hsh
        rw [hsh]
        exact wrap_or _ _
  · rintro fr H ⟨rfl, rfl, h2⟩
    refine Tells.of (o := ⟨.ret, [(2, uB (ofR l 0 0#32).1), (3, .ptr 0 0 0 0)], [fltO 0 0, alO 32]⟩) ?_ ⟨rfl, rfl, by rw [h2]⟩
    refine ⟨0, ?_⟩
    simp (maxSteps := 2000000) -implicitDefEqProofs [-getElem?_pos, List.getElem?_cons_zero, List.getElem?_cons_succ, exec, runOps, dstOk, wantedV, AM.step, evalT, evalO, evalArgs, evalParts, getF, putF, afterRegion, assignV, boxOf, newBox, hasIdsP, keepF, ofVal, ofCell, plen, pesz, callV, builtinV, lenV, binV, unV, arith, shiftI, loadV, storeV, putV, indexAddrV, live, upd, pget, pset, psetA, pagg, retag, retagP, byteAV, freezeP, freezeV, joinTags, joinTag, tags, ids, scalar, cellsLen, eqV, convV, faV, fvV, shiftBy, shiftRo, ofFr, uB, fltO, bd29n, flatCells, splice, scalars, scalar]

end

theorem of_ev {H : AM.Heap} {a : AV} {l : List (List UInt8)} (h : payOf H a = some (tx l)) (hl : l.length < 9223372036854775808) :
    Ev1 X 9 [a] H (.tup [uB (ofR l 0 0#32).1, fltV (ofR l 0 0#32).2.1 (ofR l 0 0#32).2.2], H) := by
  obtain ⟨cc, x, hx⟩ := args_pay (C := X) (f := 9) (i := 0) rfl h (args_nil 1)
  obtain ⟨code, hb, ⟨ex, fr, H1⟩, ⟨he, hfr, hH⟩, hr⟩ := of_code cc l hl
  simp only at he hfr hH
  subst he; subst hfr; subst hH
  generalize ofR l 0 0#32 = r at *
  generalize alO 32 = oo at *
  refine Ev1.plain (l := [uB r.1, fltV r.2.1 r.2.2]) (evT_below X) Tryd.func9 hb hx (by simp [idsL, ids, ids_tx]) (by simp [gtag]) hr (.inr rfl) ?_ rfl rfl
  rfl

/-- the bits below i -/
def lowB (c : BitVec 32) : Nat → BitVec 32
  | 0 => 0#32
  | i + 1 => if c.getLsbD i then lowB c i ||| (1#32 <<< i) else lowB c i

theorem lowB_bit (c : BitVec 32) : ∀ i, i ≤ 32 → ∀ j, (lowB c i).getLsbD j = (decide (j < i) && c.getLsbD j)
  | 0, _, j => by simp [lowB]
  | i + 1, hi, j => by
    have ih := lowB_bit c i (by omega)
    have h1 : (1#32 <<< i).getLsbD j = decide (j = i) := by
      rw [BitVec.getLsbD_shiftLeft, BitVec.getLsbD_one]
      by_cases hj : j = i
      · subst hj; simp; omega
      · by_cases hlt : j < i
        · simp [hlt, hj]
        · simp [hj]; omega
    unfold lowB
    split
    · rename_i hb
      rw [BitVec.getLsbD_or, ih, h1]
      by_cases hj : j = i
      · subst hj; simp [hb]
      · rw [show decide (j < i + 1) = decide (j < i) by simp; omega]
        simp [hj]
    · rename_i hb
      rw [ih]
      by_cases hj : j = i
      · subst hj; simp [hb]
      · rw [show decide (j < i + 1) = decide (j < i) by simp; omega]

theorem lowB_all (c : BitVec 32) : lowB c 32 = c := by
  apply BitVec.eq_of_getLsbD_eq
  intro j hj
  rw [lowB_bit c 32 (by omega) j]
  simp [hj]

theorem ofR_snoc : ∀ (l : List (List UInt8)) (s : List UInt8) (k : Nat) (c d : BitVec 32), ofR l k c = (d, 0, 0) → ofR (l ++ [s]) k c = ofR [s] (k + l.length) d
  | [], s, k, c, d, h => by
    have : c = d := (Prod.mk.inj h).1
    subst this; rfl
  | x :: r, s, k, c, d, h => by
    rw [List.cons_append]
    unfold ofR at h ⊢
    split
    · rename_i hn
      rw [if_pos hn] at h
      simp at h
    · rename_i hn
      rw [if_neg hn] at h
      rw [ofR_snoc r s (k + 1) _ d h, List.length_cons, show k + 1 + r.length = k + (r.length + 1) by omega]
      rfl

theorem ixR_nm {k : Nat} (hk : k < 32) : ixR (nmsA 32) (nm k) 0 = (k : Int) := by
  have : List.all (List.range 32) (fun k => ixR (nmsA 32) (nm k) 0 == (k : Int)) = true := by kernel_rfl
  have := List.all_eq_true.1 this k (List.mem_range.2 hk)
  simpa using this

theorem ofR_nms (c : BitVec 32) : ∀ i, i ≤ 32 → ofR (nmsB c i) 0 0#32 = (lowB c i, 0, 0)
  | 0, _ => rfl
  | i + 1, hi => by
    have ih := ofR_nms c i (by omega)
    unfold nmsB lowB
    by_cases hb : c.getLsbD i = true
    · rw [if_pos hb, if_pos hb, ofR_snoc _ _ _ _ _ ih]
      have hx := ixR_nm (show i < 32 by omega)
      unfold ofR
      rw [hx, if_neg (by omega), Int.toNat_natCast]
      rfl
    · rw [if_neg hb, if_neg hb, ih]

theorem nms_inj {a b : BitVec 32} (h : nmsB a 32 = nmsB b 32) : a = b := by
  have ha := ofR_nms a 32 (by omega)
  have hb := ofR_nms b 32 (by omega)
  rw [h, hb, lowB_all, lowB_all] at ha
  exact (Prod.mk.inj ha).1.symm

end Go.Proofs.YtfkbemllgeopfaaDoor
