/- Walks: All. -/
import Derived.Test.YtikleidhmekgnaaWW
import Derived.Test.YtikleidhmekgnaaWK
namespace Go.Proofs.Ytikleidhmekgnaa
open Go.AM
set_option linter.unusedSimpArgs false
set_option linter.unusedVariables false

/-- the program's reading of a symbol at a -/
def pdR (l : List Int) (b : List UInt8) (a : Nat) : (Int × Int × Int) × Nat := pdecL l (countsR l).1 (firstsR (countsR l).1) b a (mxL 0 l).toNat 1 0

theorem pdecL_pos (l n f : List Int) (b : List UInt8) (a : Nat) : ∀ (k i : Nat) (code : Int), (pdecL l n f b a k i code).1.2.2 = 0 → (((pdecL l n f b a k i code).2 : Nat) : Int) = a + (pdecL l n f b a k i code).1.2.1
  | 0, i, code => by simp [pdecL]
  | k + 1, i, code => by
    unfold pdecL
    split
    · simp
    · split
      · intro _; simp
      · exact pdecL_pos l n f b a k (i + 1) _

theorem pdR_eq {l : List Int} (hl : l.length ≤ 320) (hf : fine l = true) (b : List UInt8) (a : Nat) : (pdR l b a).1 = decR l (rcodesR l) b a := by
  have hmx := mxL_bound l 0 (by omega) (by omega) hf
  unfold pdR
  rw [← codes_eq hl hf]
  exact pdec_eq l _ _ b a hl hf (fun i hi => countsR_at hl hf i hi) (fun i hi => firstsR_at hl hf i (by omega)) _ 1 0 (by omega) (by omega)

theorem pdR_pos {l : List Int} {b : List UInt8} {a : Nat} (h : (pdR l b a).1.2.2 = 0) : (((pdR l b a).2 : Nat) : Int) = a + (pdR l b a).1.2.1 := pdecL_pos _ _ _ _ _ _ _ _ h

theorem pdR_ev (c : Nat) {l : List Int} (hl : l.length ≤ 320) (hf : fine l = true) (b : List UInt8) (a t tn : Nat) (pre : AM.Heap) (hb : b.length ≤ 100000) (ha : a < 9223372036854775808) (ht : t = 0 ∨ t = 2) (htn : tn = 0 ∨ tn = 2) :
    evT X 26 (cap6 pre.length) (pre ++ nH c b (a : Nat) (mxL 0 l) (countsR l).1 (firstsR (countsR l).1) l pre.length t 2 tn) = some (t3 (pdR l b a).1, pre ++ nH c b ((pdR l b a).2 : Nat) (mxL 0 l) (countsR l).1 (firstsR (countsR l).1) l pre.length 2 2 2) := by
  have hmx := mxL_bound l 0 (by omega) (by omega) hf
  have hfl : (firstsR (countsR l).1).length = 17 := by unfold firstsR; rw [firstL_len]; rfl
  exact evT_eq (next_ev a hmx hl (countsR_len l) hfl (fun i hi => countsR_at hl hf i hi)
        (fun i hi => by
          rw [firstsR_at hl hf i (by omega)]
          have hbd := fst_bound (ct l) (fun j => ⟨ct_nonneg l j, by have := ct_le l j; omega⟩) i
          have hp : (2 : Int) ^ i ≤ 2 ^ 15 := by
            have := Nat.pow_le_pow_right (n := 2) (by omega) (show i ≤ 15 by omega)
            exact_mod_cast this
          omega) hb ha ht htn)

def alFr (n : Int) (out : List Int) (a i : Nat) : AM.Frame :=
  [(6, .sl 0 0 out.length out.length), (7, .int .i64 (a : Nat)), (11, .fn 26 (cap6 1)), (28, .int .i64 n), (29, .int .i64 (i : Nat))]

/-- what All leaves -/
def alP (r : List Int × Int × Int) (o : AM.Out) : Prop :=
  (r.2.2 = 0 ∧ ∃ Hr, o = ⟨.ret, [(6, .sl 0 0 r.1.length r.1.length), (7, .int .i64 r.2.1), (8, .int .i64 0)], obI r.1 :: Hr⟩) ∨
  (r.2.2 ≠ 0 ∧ r = ([], 0, r.2.2) ∧ ∃ Hp : AM.Heap, o = ⟨.ret, [(6, .sl Hp.length 0 0 0), (7, .int .i64 0), (8, .int .i64 r.2.2)], Hp ++ [nilI]⟩)

def alL (n : Int) (r : List Int × Int × Int) (o : AM.Out) : Prop :=
  (r.2.2 = 0 ∧ ∃ a : Nat, r.2.1 = (a : Int) ∧ ∃ Hr, o = ⟨.exit 0, alFr n r.1 a n.toNat ++ [(30, .bool false)], obI r.1 :: Hr⟩) ∨
  (r.2.2 ≠ 0 ∧ r = ([], 0, r.2.2) ∧ ∃ Hp : AM.Heap, o = ⟨.ret, [(6, .sl Hp.length 0 0 0), (7, .int .i64 0), (8, .int .i64 r.2.2)], Hp ++ [nilI]⟩)

set_option maxRecDepth 100000 in
theorem all_code (c c2 : Nat) (l : List Int) (b : List UInt8) (n : Int) (he : (rcheckR l).2 = 0) (hb : b.length ≤ 100000) (hn0 : 0 ≤ n) (hn : n ≤ 100000) : ∃ code, Try.f19.body = some code ∧
    ∃ o, Run X (evT X) 19 0 code [(0, .ro c (.pi .i64 l) 1), (1, .ro c2 (.pb b) 2), (2, .int .i64 n)] [] o ∧ alP (rallR l b n) o := by
  refine ⟨_, rfl, ?_⟩
  obtain ⟨hl, hf⟩ := rcheck_fine he
  have hCk := evT_eq (T2_below _ _ _ _ (T2_check (H := [nilI]) (a := .ro c (.pi .i64 l) 1) (l := l) rfl (by omega)))
  unfold ckV at hCk
  have hce : (checkR l).2 = 0 := by rw [check_eq]; exact he
  have hRd : evT X 22 [.ro c (.pi .i64 l) 1, .ro c2 (.pb b) 2, .int .i64 0] [nilI] = some (.fn 26 (cap6 1), nilI :: nH c2 b 0 (mxL 0 l) (countsR l).1 (firstsR (countsR l).1) l 1 0 2 0) := evT_eq (T22_below _ _ _ _ (by simp only [T22]; rw [if_pos ⟨hl, hf⟩]; rfl))
  have hNx := fun (out : List Int) (a t tn : Nat) ha ht htn => pdR_ev c2 hl hf b a t tn [obI out] hb ha ht htn
  have hpe := fun a => pdR_eq hl hf b a
  have hpp := fun a => pdR_pos (l := l) (b := b) (a := a)
  unfold rallR
  rw [if_pos he, if_neg (by omega)]
  generalize rcodesR l = codes at hpe ⊢
  generalize mxL 0 l = m at *
  generalize (countsR l).1 = cn at *
  generalize firstsR cn = fs at *
  have hn3 : ¬ n < 0 := by omega
  have hni : nilI = some { p := .pi .i64 [], g := 0, cap := .none, z := 0, row := true, ids := false, tg := 0 } := rfl
  rw [hni] at hCk hRd
  apply seq_ex
  · (refine ⟨0, ?_⟩; conv => lhs; simp -implicitDefEqProofs [-getElem?_pos, List.getElem?_cons_zero, List.getElem?_cons_succ, exec, runOps, dstOk, wantedV, AM.step, evalT, evalO, evalArgs, evalParts, getF, putF, afterRegion, assignV, boxOf, newBox, hasIdsP, keepF, ofVal, ofCell, plen, pesz, callV, builtinV, lenV, binV, unV, arith, shiftI, loadV, storeV, putV, indexAddrV, live, upd, pget, pset, psetA, pagg, retag, retagP, byteAV, freezeP, freezeV, joinTags, joinTag, tags, ids, scalar, cellsLen, eqV, convV, faV, fvV, shiftBy, shiftRo, rowOf, emptyRow])
  apply seq_ex
  · (refine ⟨0, ?_⟩; conv => lhs; simp -implicitDefEqProofs [-getElem?_pos, List.getElem?_cons_zero, List.getElem?_cons_succ, exec, runOps, dstOk, wantedV, AM.step, evalT, evalO, evalArgs, evalParts, getF, putF, afterRegion, assignV, boxOf, newBox, hasIdsP, keepF, ofVal, ofCell, plen, pesz, callV, builtinV, lenV, binV, unV, arith, shiftI, loadV, storeV, putV, indexAddrV, live, upd, pget, pset, psetA, pagg, retag, retagP, byteAV, freezeP, freezeV, joinTags, joinTag, tags, ids, scalar, cellsLen, eqV, convV, faV, fvV, shiftBy, shiftRo, hCk, hce])
  apply seq_ex
  · (refine ⟨0, ?_⟩; conv => lhs; simp -implicitDefEqProofs [-getElem?_pos, List.getElem?_cons_zero, List.getElem?_cons_succ, exec, runOps, dstOk, wantedV, AM.step, evalT, evalO, evalArgs, evalParts, getF, putF, afterRegion, assignV, boxOf, newBox, hasIdsP, keepF, ofVal, ofCell, plen, pesz, callV, builtinV, lenV, binV, unV, arith, shiftI, loadV, storeV, putV, indexAddrV, live, upd, pget, pset, psetA, pagg, retag, retagP, byteAV, freezeP, freezeV, joinTags, joinTag, tags, ids, scalar, cellsLen, eqV, convV, faV, fvV, shiftBy, shiftRo, hn3])
  apply seq_ex
  · (refine ⟨0, ?_⟩; conv => lhs; simp -implicitDefEqProofs [-getElem?_pos, List.getElem?_cons_zero, List.getElem?_cons_succ, exec, runOps, dstOk, wantedV, AM.step, evalT, evalO, evalArgs, evalParts, getF, putF, afterRegion, assignV, boxOf, newBox, hasIdsP, keepF, ofVal, ofCell, plen, pesz, callV, builtinV, lenV, binV, unV, arith, shiftI, loadV, storeV, putV, indexAddrV, live, upd, pget, pset, psetA, pagg, retag, retagP, byteAV, freezeP, freezeV, joinTags, joinTag, tags, ids, scalar, cellsLen, eqV, convV, faV, fvV, shiftBy, shiftRo, hRd])
  refine seqB_ex (P := alL n (rallL l codes b n.toNat [] 0)) (fr1 := alFr n [] 0 (n.toNat - n.toNat)) (H1 := obI [] :: nH c2 b (0 : Nat) m cn fs l 1 0 2 0) ?_ (loop_pred (σ := Nat × List Int × Nat × Nat × Nat) (fun t => t.1 ≤ n.toNat ∧ t.2.1.length + t.1 = n.toNat ∧ t.2.2.1 ≤ 8 * b.length ∧ (t.2.2.2.1 = 0 ∨ t.2.2.2.1 = 2) ∧ (t.2.2.2.2 = 0 ∨ t.2.2.2.2 = 2)) (fun t => alFr n t.2.1 t.2.2.1 (n.toNat - t.1)) (fun t => obI t.2.1 :: nH c2 b (t.2.2.1 : Nat) m cn fs l 1 t.2.2.2.1 2 t.2.2.2.2) (fun t => alL n (rallL l codes b t.1 t.2.1 t.2.2.1)) (fun t => t.1) ?_ (n.toNat, [], 0, 0, 0) ⟨Nat.le_refl _, by simp, by simp, .inl rfl, .inl rfl⟩) ?_
  · (refine ⟨0, ?_⟩; simp -implicitDefEqProofs [-getElem?_pos, List.getElem?_cons_zero, List.getElem?_cons_succ, exec, runOps, dstOk, wantedV, AM.step, evalT, evalO, evalArgs, evalParts, getF, putF, afterRegion, assignV, boxOf, newBox, hasIdsP, keepF, ofVal, ofCell, plen, pesz, callV, builtinV, lenV, binV, unV, arith, shiftI, loadV, storeV, putV, indexAddrV, live, upd, pget, pset, psetA, pagg, retag, retagP, byteAV, freezeP, freezeV, joinTags, joinTag, tags, ids, scalar, cellsLen, eqV, convV, faV, fvV, shiftBy, shiftRo, alFr, obI])
  · rintro ⟨k, out, a, t, tn⟩ ⟨hk, ho, ha, ht, htn⟩
    simp only at hk ho ha ht htn ⊢
    cases k with
    | zero =>
      have hge : ¬ (n < n) := by omega
      have hnn : ((n.toNat : Nat) : Int) = n := by omega
      refine ⟨⟨.exit 0, alFr n out a n.toNat ++ [(30, .bool false)], obI out :: nH c2 b (a : Nat) m cn fs l 1 t 2 tn⟩, ?_, .inr ⟨by simp, .inl ⟨rfl, a, rfl, _, rfl⟩⟩⟩
      (refine ⟨0, ?_⟩; simp -implicitDefEqProofs [-getElem?_pos, List.getElem?_cons_zero, List.getElem?_cons_succ, exec, runOps, dstOk, wantedV, AM.step, evalT, evalO, evalArgs, evalParts, getF, putF, afterRegion, assignV, boxOf, newBox, hasIdsP, keepF, ofVal, ofCell, plen, pesz, callV, builtinV, lenV, binV, unV, arith, shiftI, loadV, storeV, putV, indexAddrV, live, upd, pget, pset, psetA, pagg, retag, retagP, byteAV, freezeP, freezeV, joinTags, joinTag, tags, ids, scalar, cellsLen, eqV, convV, faV, fvV, shiftBy, shiftRo, alFr, hnn, hge])
    | succ k =>
      have hi : ((n.toNat - (k + 1) : Nat) : Int) < n := by omega
      have hDa := hNx out a t tn (by omega) ht htn
      have hpos := hpp a
      have hsp := decR_spec l codes b a
      simp only [List.length_cons, List.length_nil, Nat.zero_add, List.cons_append, List.nil_append] at hDa
      rw [← hpe a] at hsp
      have hrw : rallL l codes b (k + 1) out a = if (pdR l b a).1.2.2 = 0 then rallL l codes b k (out ++ [(pdR l b a).1.1]) (a + (pdR l b a).1.2.1.toNat) else ([], 0, (pdR l b a).1.2.2) := by
        rw [hpe a]
        conv => lhs; unfold rallL
      by_cases h0 : (pdR l b a).1.2.2 = 0
      · obtain ⟨s1, s2⟩ := hsp h0
        have hp := hpos h0
        have happ := fun N => app_obI (H := obI out :: N) (o := 0) out (pdR l b a).1.1 rfl (by omega)
        rw [hrw, if_pos h0]
        have e2 : a + (pdR l b a).1.2.1.toNat = (pdR l b a).2 := by omega
        rw [e2]
        refine ⟨⟨.normal, alFr n (out ++ [(pdR l b a).1.1]) (pdR l b a).2 (n.toNat - k), obI (out ++ [(pdR l b a).1.1]) :: nH c2 b ((pdR l b a).2 : Nat) m cn fs l 1 2 2 2⟩, ?_, .inl ⟨(k, out ++ [(pdR l b a).1.1], (pdR l b a).2, 2, 2), ⟨by omega, by simp; omega, by simp only; omega, .inr rfl, .inr rfl⟩, rfl, fun _ h => h, by simp⟩⟩
        have w1 : IntKind.i64.wrap ((a : Int) + (pdR l b a).1.2.1) = (((pdR l b a).2 : Nat) : Int) := by rw [wrap_i64 (by omega) (by omega)]; omega
        have w2 : IntKind.i64.wrap (((n.toNat - (k + 1) : Nat) : Int) + 1) = ((n.toNat - k : Nat) : Int) := by rw [wrap_i64 (by omega) (by omega)]; omega
        generalize n.toNat - (k + 1) = i1 at *
        generalize n.toNat - k = i2 at *
        generalize pdR l b a = r at *
        unfold t3 at hDa
        simp only [alFr, cap6] at hDa ⊢
        generalize nH c2 b (a : Nat) m cn fs l 1 t 2 tn = N1 at *
        generalize nH c2 b (r.2 : Nat) m cn fs l 1 2 2 2 = N2 at *
        refine ⟨0, ?_⟩
        simp -implicitDefEqProofs [-getElem?_pos, List.getElem?_cons_zero, List.getElem?_cons_succ, exec, runOps, dstOk, wantedV, AM.step, evalT, evalO, evalArgs, evalParts, getF, putF, afterRegion, assignV, boxOf, newBox, hasIdsP, keepF, ofVal, ofCell, plen, pesz, callV, builtinV, lenV, binV, unV, arith, shiftI, loadV, storeV, putV, indexAddrV, live, upd, pget, pset, psetA, pagg, retag, retagP, byteAV, freezeP, freezeV, joinTags, joinTag, tags, ids, scalar, cellsLen, eqV, convV, faV, fvV, shiftBy, shiftRo, hi, hDa, h0, bsI, happ, w1, w2]
      · rw [hrw, if_neg h0]
        have h0b : ((pdR l b a).1.2.2 != 0) = true := by simpa using h0
        generalize pdR l b a = r at *
        unfold t3 at hDa
        simp only [alFr, cap6] at hDa ⊢
        generalize nH c2 b (a : Nat) m cn fs l 1 t 2 tn = N1 at *
        generalize nH c2 b (r.2 : Nat) m cn fs l 1 2 2 2 = N2 at *
        refine ⟨⟨.ret, [(6, .sl (obI out :: N2).length 0 0 0), (7, .int .i64 0), (8, .int .i64 r.1.2.2)], (obI out :: N2) ++ [nilI]⟩, ⟨0, ?_⟩, .inr ⟨by simp, .inr ⟨h0, rfl, _, rfl⟩⟩⟩
        simp -implicitDefEqProofs [-getElem?_pos, List.getElem?_cons_zero, List.getElem?_cons_succ, exec, runOps, dstOk, wantedV, AM.step, evalT, evalO, evalArgs, evalParts, getF, putF, afterRegion, assignV, boxOf, newBox, hasIdsP, keepF, ofVal, ofCell, plen, pesz, callV, builtinV, lenV, binV, unV, arith, shiftI, loadV, storeV, putV, indexAddrV, live, upd, pget, pset, psetA, pagg, retag, retagP, byteAV, freezeP, freezeV, joinTags, joinTag, tags, ids, scalar, cellsLen, eqV, convV, faV, fvV, shiftBy, shiftRo, hi, hDa, h0, h0b, rowOf, emptyRow, nilI]
  · intro o ho
    rcases ho with ⟨h0, a, e, Hr, rfl⟩ | ⟨h0, e, Hp, rfl⟩
    · refine .inl ⟨_, _, rfl, ⟨.ret, [(6, .sl 0 0 (rallL l codes b n.toNat [] 0).1.length (rallL l codes b n.toNat [] 0).1.length), (7, .int .i64 (rallL l codes b n.toNat [] 0).2.1), (8, .int .i64 0)], obI (rallL l codes b n.toNat [] 0).1 :: Hr⟩, ?_, .inl ⟨h0, Hr, rfl⟩⟩
      rw [e]
      generalize (rallL l codes b n.toNat [] 0).1 = out
      refine ⟨0, ?_⟩
      simp -implicitDefEqProofs [-getElem?_pos, List.getElem?_cons_zero, List.getElem?_cons_succ, exec, runOps, dstOk, wantedV, AM.step, evalT, evalO, evalArgs, evalParts, getF, putF, afterRegion, assignV, boxOf, newBox, hasIdsP, keepF, ofVal, ofCell, plen, pesz, callV, builtinV, lenV, binV, unV, arith, shiftI, loadV, storeV, putV, indexAddrV, live, upd, pget, pset, psetA, pagg, retag, retagP, byteAV, freezeP, freezeV, joinTags, joinTag, tags, ids, scalar, cellsLen, eqV, convV, faV, fvV, shiftBy, shiftRo, alFr]
    · exact .inr ⟨by simp [blockOut], .inr ⟨h0, e, Hp, rfl⟩⟩

end Go.Proofs.Ytikleidhmekgnaa
