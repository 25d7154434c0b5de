/- Walks: the document's All. -/
import Derived.Test.YtikleidhmekgnaaWJ
namespace Go.Proofs.Ytikleidhmekgnaa
open Go.AM
set_option linter.unusedSimpArgs false
set_option linter.unusedVariables false

theorem app_obI {H : AM.Heap} {o : Nat} (l : List Int) (x : Int) (ho : H[o]? = some (obI l)) (h : l.length ≤ 100000) : appendV X H 25 (.sl o 0 l.length l.length) (.ro 1 (.pi .i64 [x]) 0) = some (.sl o 0 (l ++ [x]).length (l ++ [x]).length, upd H o (obI (l ++ [x]))) := by
  have hroom : roomOk X 3 (l.length + 1) = true := by
    simp [roomOk]
    omega
  have ho' : H[o]? = some (some ⟨.pi .i64 l, l.length, .none, (if l.length ≤ 1 then 0 else 1), true, false, 0⟩) := ho
  simp only [appendV, und25, size3, zok3]
  simp [srcV, payB, plen, live, ho', obI, psub, papp, pesz, ptag, joinTag, hroom]
  cases l with
  | nil => simp
  | cons y r => simp

theorem seq_ex {C : Ctx} {T : Cf} {f m : Nat} {a b : Code} {fr fr1 : AM.Frame} {H H1 : AM.Heap} {Q : AM.Out → Prop} (h0 : Run C T f m a fr H ⟨.normal, fr1, H1⟩) (h1 : ∃ o, Run C T f m b fr1 H1 o ∧ Q o) : ∃ o, Run C T f m (.seq a b) fr H o ∧ Q o := by
  obtain ⟨o, g1, g2⟩ := h1
  exact ⟨o, Run.seq h0 g1, g2⟩

theorem seqB_ex {C : Ctx} {T : Cf} {f m id : Nat} {a c rest : Code} {fr fr1 : AM.Frame} {H H1 : AM.Heap} {P Q : AM.Out → Prop} (h0 : Run C T f m a fr H ⟨.normal, fr1, H1⟩) (hl : ∃ o, Run C T f m c fr1 H1 o ∧ P o)
    (h1 : ∀ o, P o → (∃ fr' H', blockOut id o = ⟨.normal, fr', H'⟩ ∧ ∃ o', Run C T f m rest fr' H' o' ∧ Q o') ∨ ((blockOut id o).ex ≠ .normal ∧ Q (blockOut id o))) : ∃ o, Run C T f m (.seq (.seq a (.block id c)) rest) fr H o ∧ Q o := by
  obtain ⟨o, g1, g2⟩ := hl
  have hb : Run C T f m (.seq a (.block id c)) fr H (blockOut id o) := Run.seq h0 (Run.block' g1)
  rcases h1 o g2 with ⟨fr', H', e, o', h2, h3⟩ | ⟨h2, h3⟩
  · rw [e] at hb; exact ⟨o', Run.seq hb h2, h3⟩
  · exact ⟨_, Run.seq_out hb h2, h3⟩

def raFr (c c2 : Nat) (l : List Int) (b : List UInt8) (n : Int) (out : List Int) (a i : Nat) : AM.Frame :=
  [(0, .ro c (.pi .i64 l) 1), (1, .ro c2 (.pb b) 2), (2, .int .i64 n), (9, .sl 1 0 l.length 0), (11, .sl 2 0 out.length out.length), (12, .int .i64 (a : Nat)), (13, .int .i64 (i : Nat))]

def raP (c c2 : Nat) (l codes : List Int) (b : List UInt8) (n : Int) (r : List Int × Int × Int) (o : AM.Out) : Prop :=
  (r.2.2 = 0 ∧ ∃ a : Nat, r.2.1 = (a : Int) ∧ o = ⟨.exit 0, raFr c c2 l b n r.1 a n.toNat ++ [(29, .bool false)], [nilI, rowI l.length codes, obI r.1]⟩) ∨
  (r.2.2 ≠ 0 ∧ r = ([], 0, r.2.2) ∧ ∃ out, o = ⟨.ret, [(6, .sl 3 0 0 0), (7, .int .i64 0), (8, .int .i64 r.2.2)], [nilI, rowI l.length codes, obI out, nilI]⟩)

set_option maxRecDepth 100000 in
theorem rall_code (c c2 : Nat) (l : List Int) (b : List UInt8) (n : Int) (he : (rcheckR l).2 = 0) (hb : b.length ≤ 100000) (hn0 : 0 ≤ n) (hn : n ≤ 100000) : ∃ code, Try.f20.body = some code ∧
    ∃ o, Run X T8 20 0 code [(0, .ro c (.pi .i64 l) 1), (1, .ro c2 (.pb b) 2), (2, .int .i64 n)] [] o ∧
      (((rallR l b n).2.2 = 0 ∧ o = ⟨.ret, [(6, .sl 2 0 (rallR l b n).1.length (rallR l b n).1.length), (7, .int .i64 (rallR l b n).2.1), (8, .int .i64 0)], [nilI, rowI l.length (rcodesR l), obI (rallR l b n).1]⟩) ∨
       ((rallR l b n).2.2 ≠ 0 ∧ rallR l b n = ([], 0, (rallR l b n).2.2) ∧ ∃ out, o = ⟨.ret, [(6, .sl 3 0 0 0), (7, .int .i64 0), (8, .int .i64 (rallR l b n).2.2)], [nilI, rowI l.length (rcodesR l), obI out, nilI]⟩)) := by
  refine ⟨_, rfl, ?_⟩
  obtain ⟨hl, hf⟩ := rcheck_fine he
  have hT := fun H => T8_codes (H := H) (a := .ro c (.pi .i64 l) 1) rfl (by omega) he
  have hcl := rcodesR_len l
  unfold rallR
  rw [if_pos he, if_neg (by omega)]
  generalize rcodesR l = codes at hT hcl ⊢
  have hD := fun (H : AM.Heap) (a : Nat) (ho : H[1]? = some (rowI l.length codes)) (ha : a < 9223372036854775808) => T8_decode (H := H) (a1 := .ro c (.pi .i64 l) 1) (a2 := .sl 1 0 l.length 0) (a3 := .ro c2 (.pb b) 2) (l := l) (codes := codes) (b := b) (a := (a : Int)) rfl (by
    have ho' : H[1]? = some (some ⟨.pi .i64 codes, 0, some l.length, 1, true, false, 0⟩) := ho
    simp [payOf, live, ho', psub, ← hcl]) rfl hl hf hcl hb (by omega) (by omega)
  have hn3 : ¬ n < 0 := by omega
  apply seq_ex
  · (refine ⟨0, ?_⟩; conv => lhs; simp -implicitDefEqProofs [-getElem?_pos, List.getElem?_cons_zero, List.getElem?_cons_succ, exec, runOps, dstOk, wantedV, AM.step, evalT, evalO, evalArgs, evalParts, getF, putF, afterRegion, assignV, boxOf, newBox, hasIdsP, keepF, ofVal, ofCell, plen, pesz, callV, builtinV, lenV, binV, unV, arith, shiftI, loadV, storeV, putV, indexAddrV, live, upd, pget, pset, psetA, pagg, retag, retagP, byteAV, freezeP, freezeV, joinTags, joinTag, tags, ids, scalar, cellsLen, eqV, convV, faV, fvV, shiftBy, shiftRo, rowOf, emptyRow])
  apply seq_ex
  · (refine ⟨0, ?_⟩; conv => lhs; simp -implicitDefEqProofs [-getElem?_pos, List.getElem?_cons_zero, List.getElem?_cons_succ, exec, runOps, dstOk, wantedV, AM.step, evalT, evalO, evalArgs, evalParts, getF, putF, afterRegion, assignV, boxOf, newBox, hasIdsP, keepF, ofVal, ofCell, plen, pesz, callV, builtinV, lenV, binV, unV, arith, shiftI, loadV, storeV, putV, indexAddrV, live, upd, pget, pset, psetA, pagg, retag, retagP, byteAV, freezeP, freezeV, joinTags, joinTag, tags, ids, scalar, cellsLen, eqV, convV, faV, fvV, shiftBy, shiftRo, hT])
  apply seq_ex
  · (refine ⟨0, ?_⟩; conv => lhs; simp -implicitDefEqProofs [-getElem?_pos, List.getElem?_cons_zero, List.getElem?_cons_succ, exec, runOps, dstOk, wantedV, AM.step, evalT, evalO, evalArgs, evalParts, getF, putF, afterRegion, assignV, boxOf, newBox, hasIdsP, keepF, ofVal, ofCell, plen, pesz, callV, builtinV, lenV, binV, unV, arith, shiftI, loadV, storeV, putV, indexAddrV, live, upd, pget, pset, psetA, pagg, retag, retagP, byteAV, freezeP, freezeV, joinTags, joinTag, tags, ids, scalar, cellsLen, eqV, convV, faV, fvV, shiftBy, shiftRo])
  apply seq_ex
  · (refine ⟨0, ?_⟩; conv => lhs; simp -implicitDefEqProofs [-getElem?_pos, List.getElem?_cons_zero, List.getElem?_cons_succ, exec, runOps, dstOk, wantedV, AM.step, evalT, evalO, evalArgs, evalParts, getF, putF, afterRegion, assignV, boxOf, newBox, hasIdsP, keepF, ofVal, ofCell, plen, pesz, callV, builtinV, lenV, binV, unV, arith, shiftI, loadV, storeV, putV, indexAddrV, live, upd, pget, pset, psetA, pagg, retag, retagP, byteAV, freezeP, freezeV, joinTags, joinTag, tags, ids, scalar, cellsLen, eqV, convV, faV, fvV, shiftBy, shiftRo, hn3])
  apply seq_ex
  · (refine ⟨0, ?_⟩; conv => lhs; simp -implicitDefEqProofs [-getElem?_pos, List.getElem?_cons_zero, List.getElem?_cons_succ, exec, runOps, dstOk, wantedV, AM.step, evalT, evalO, evalArgs, evalParts, getF, putF, afterRegion, assignV, boxOf, newBox, hasIdsP, keepF, ofVal, ofCell, plen, pesz, callV, builtinV, lenV, binV, unV, arith, shiftI, loadV, storeV, putV, indexAddrV, live, upd, pget, pset, psetA, pagg, retag, retagP, byteAV, freezeP, freezeV, joinTags, joinTag, tags, ids, scalar, cellsLen, eqV, convV, faV, fvV, shiftBy, shiftRo, rowOf, emptyRow])
  apply seq_ex
  · (refine ⟨0, ?_⟩; conv => lhs; simp -implicitDefEqProofs [-getElem?_pos, List.getElem?_cons_zero, List.getElem?_cons_succ, exec, runOps, dstOk, wantedV, AM.step, evalT, evalO, evalArgs, evalParts, getF, putF, afterRegion, assignV, boxOf, newBox, hasIdsP, keepF, ofVal, ofCell, plen, pesz, callV, builtinV, lenV, binV, unV, arith, shiftI, loadV, storeV, putV, indexAddrV, live, upd, pget, pset, psetA, pagg, retag, retagP, byteAV, freezeP, freezeV, joinTags, joinTag, tags, ids, scalar, cellsLen, eqV, convV, faV, fvV, shiftBy, shiftRo])
  refine seqB_ex (P := raP c c2 l codes b n (rallL l codes b n.toNat [] 0)) (fr1 := raFr c c2 l b n [] 0 (n.toNat - n.toNat)) (H1 := [nilI, rowI l.length codes, obI []]) ?_ (loop_pred (σ := Nat × List Int × Nat) (fun t => t.1 ≤ n.toNat ∧ t.2.1.length + t.1 = n.toNat ∧ t.2.2 ≤ 8 * b.length) (fun t => raFr c c2 l b n t.2.1 t.2.2 (n.toNat - t.1)) (fun t => [nilI, rowI l.length codes, obI t.2.1]) (fun t => raP c c2 l codes b n (rallL l codes b t.1 t.2.1 t.2.2)) (fun t => t.1) ?_ (n.toNat, [], 0) ⟨Nat.le_refl _, by simp, by simp⟩) ?_
  · (refine ⟨0, ?_⟩; simp -implicitDefEqProofs [-getElem?_pos, List.getElem?_cons_zero, List.getElem?_cons_succ, exec, runOps, dstOk, wantedV, AM.step, evalT, evalO, evalArgs, evalParts, getF, putF, afterRegion, assignV, boxOf, newBox, hasIdsP, keepF, ofVal, ofCell, plen, pesz, callV, builtinV, lenV, binV, unV, arith, shiftI, loadV, storeV, putV, indexAddrV, live, upd, pget, pset, psetA, pagg, retag, retagP, byteAV, freezeP, freezeV, joinTags, joinTag, tags, ids, scalar, cellsLen, eqV, convV, faV, fvV, shiftBy, shiftRo, raFr, nilI, obI, rowI])
  · rintro ⟨k, out, a⟩ ⟨hk, ho, ha⟩
    simp only at hk ho ha ⊢
    cases k with
    | zero =>
      have hge : ¬ (n < n) := by omega
      have hnn : ((n.toNat : Nat) : Int) = n := by omega
      refine ⟨⟨.exit 0, raFr c c2 l b n out a n.toNat ++ [(29, .bool false)], [nilI, rowI l.length codes, obI out]⟩, ?_, .inr ⟨by simp, .inl ⟨rfl, a, rfl, rfl⟩⟩⟩
      apply Run.seq_out
      · (refine ⟨0, ?_⟩; simp -implicitDefEqProofs [-getElem?_pos, List.getElem?_cons_zero, List.getElem?_cons_succ, exec, runOps, dstOk, wantedV, AM.step, evalT, evalO, evalArgs, evalParts, getF, putF, afterRegion, assignV, boxOf, newBox, hasIdsP, keepF, ofVal, ofCell, plen, pesz, callV, builtinV, lenV, binV, unV, arith, shiftI, loadV, storeV, putV, indexAddrV, live, upd, pget, pset, psetA, pagg, retag, retagP, byteAV, freezeP, freezeV, joinTags, joinTag, tags, ids, scalar, cellsLen, eqV, convV, faV, fvV, shiftBy, shiftRo, raFr, hnn, hge])
      · simp
    | succ k =>
      have hi : ((n.toNat - (k + 1) : Nat) : Int) < n := by omega
      have hDa := hD [nilI, rowI l.length codes, obI out] a rfl (by omega)
      rw [show (((a : Nat) : Int)).toNat = a by omega] at hDa
      have hsp := decR_spec l codes b a
      by_cases h0 : (decR l codes b a).2.2 = 0
      · obtain ⟨s1, s2⟩ := hsp h0
        have happ := app_obI (H := [nilI, rowI l.length codes, obI out]) (o := 2) out (decR l codes b a).1 rfl (by omega)
        have hrun : rallL l codes b (k + 1) out a = rallL l codes b k (out ++ [(decR l codes b a).1]) (a + (decR l codes b a).2.1.toNat) := by
          conv => lhs; unfold rallL
          rw [if_pos h0]
        rw [hrun]
        refine ⟨⟨.normal, raFr c c2 l b n (out ++ [(decR l codes b a).1]) (a + (decR l codes b a).2.1.toNat) (n.toNat - k), [nilI, rowI l.length codes, obI (out ++ [(decR l codes b a).1])]⟩, ?_, .inl ⟨(k, out ++ [(decR l codes b a).1], a + (decR l codes b a).2.1.toNat), ⟨by omega, by simp; omega, by simp only; omega⟩, rfl, fun _ h => h, by simp⟩⟩
        have w1 : IntKind.i64.wrap ((a : Int) + (decR l codes b a).2.1) = ((a + (decR l codes b a).2.1.toNat : Nat) : Int) := by rw [wrap_i64 (by omega) (by omega)]; omega
        have w2 : IntKind.i64.wrap (((n.toNat - (k + 1) : Nat) : Int) + 1) = ((n.toNat - k : Nat) : Int) := by rw [wrap_i64 (by omega) (by omega)]; omega
        generalize n.toNat - (k + 1) = i1 at *
        generalize n.toNat - k = i2 at *
        generalize decR l codes b a = r at *
        generalize a + r.2.1.toNat = a2 at *
        unfold t3 at hDa
        apply Run.seq
        · (refine ⟨0, ?_⟩; conv => lhs; simp -implicitDefEqProofs [-getElem?_pos, List.getElem?_cons_zero, List.getElem?_cons_succ, exec, runOps, dstOk, wantedV, AM.step, evalT, evalO, evalArgs, evalParts, getF, putF, afterRegion, assignV, boxOf, newBox, hasIdsP, keepF, ofVal, ofCell, plen, pesz, callV, builtinV, lenV, binV, unV, arith, shiftI, loadV, storeV, putV, indexAddrV, live, upd, pget, pset, psetA, pagg, retag, retagP, byteAV, freezeP, freezeV, joinTags, joinTag, tags, ids, scalar, cellsLen, eqV, convV, faV, fvV, shiftBy, shiftRo, raFr, hi])
        apply Run.seq (fr' := [(0, .ro c (.pi .i64 l) 1), (1, .ro c2 (.pb b) 2), (2, .int .i64 n), (9, .sl 1 0 l.length 0), (11, .sl 2 0 (out ++ [r.1]).length (out ++ [r.1]).length), (12, .int .i64 (a2 : Nat)), (13, .int .i64 (i1 : Nat))]) (H' := [nilI, rowI l.length codes, obI (out ++ [r.1])])
        · (refine ⟨0, ?_⟩; simp -implicitDefEqProofs [-getElem?_pos, List.getElem?_cons_zero, List.getElem?_cons_succ, exec, runOps, dstOk, wantedV, AM.step, evalT, evalO, evalArgs, evalParts, getF, putF, afterRegion, assignV, boxOf, newBox, hasIdsP, keepF, ofVal, ofCell, plen, pesz, callV, builtinV, lenV, binV, unV, arith, shiftI, loadV, storeV, putV, indexAddrV, live, upd, pget, pset, psetA, pagg, retag, retagP, byteAV, freezeP, freezeV, joinTags, joinTag, tags, ids, scalar, cellsLen, eqV, convV, faV, fvV, shiftBy, shiftRo, hDa, h0, bsI, happ, w1])
        · (refine ⟨0, ?_⟩; simp -implicitDefEqProofs [-getElem?_pos, List.getElem?_cons_zero, List.getElem?_cons_succ, exec, runOps, dstOk, wantedV, AM.step, evalT, evalO, evalArgs, evalParts, getF, putF, afterRegion, assignV, boxOf, newBox, hasIdsP, keepF, ofVal, ofCell, plen, pesz, callV, builtinV, lenV, binV, unV, arith, shiftI, loadV, storeV, putV, indexAddrV, live, upd, pget, pset, psetA, pagg, retag, retagP, byteAV, freezeP, freezeV, joinTags, joinTag, tags, ids, scalar, cellsLen, eqV, convV, faV, fvV, shiftBy, shiftRo, w2, raFr])
      · have hrun : rallL l codes b (k + 1) out a = ([], 0, (decR l codes b a).2.2) := by
          conv => lhs; unfold rallL
          rw [if_neg h0]
        rw [hrun]
        refine ⟨⟨.ret, [(6, .sl 3 0 0 0), (7, .int .i64 0), (8, .int .i64 (decR l codes b a).2.2)], [nilI, rowI l.length codes, obI out, nilI]⟩, ?_, .inr ⟨by simp, .inr ⟨h0, rfl, out, rfl⟩⟩⟩
        generalize decR l codes b a = r at *
        unfold t3 at hDa
        have h0b : (r.2.2 != 0) = true := by simpa using h0
        simp only [nilI, rowI, obI] at hDa
        apply Run.seq
        · (refine ⟨0, ?_⟩; conv => lhs; simp -implicitDefEqProofs [-getElem?_pos, List.getElem?_cons_zero, List.getElem?_cons_succ, exec, runOps, dstOk, wantedV, AM.step, evalT, evalO, evalArgs, evalParts, getF, putF, afterRegion, assignV, boxOf, newBox, hasIdsP, keepF, ofVal, ofCell, plen, pesz, callV, builtinV, lenV, binV, unV, arith, shiftI, loadV, storeV, putV, indexAddrV, live, upd, pget, pset, psetA, pagg, retag, retagP, byteAV, freezeP, freezeV, joinTags, joinTag, tags, ids, scalar, cellsLen, eqV, convV, faV, fvV, shiftBy, shiftRo, raFr, hi])
        apply Run.seq_out
        · (refine ⟨0, ?_⟩; simp -implicitDefEqProofs [-getElem?_pos, List.getElem?_cons_zero, List.getElem?_cons_succ, exec, runOps, dstOk, wantedV, AM.step, evalT, evalO, evalArgs, evalParts, getF, putF, afterRegion, assignV, boxOf, newBox, hasIdsP, keepF, ofVal, ofCell, plen, pesz, callV, builtinV, lenV, binV, unV, arith, shiftI, loadV, storeV, putV, indexAddrV, live, upd, pget, pset, psetA, pagg, retag, retagP, byteAV, freezeP, freezeV, joinTags, joinTag, tags, ids, scalar, cellsLen, eqV, convV, faV, fvV, shiftBy, shiftRo, hDa, h0, h0b, rowOf, emptyRow, nilI, rowI, obI])
        · simp
  · intro o ho
    rcases ho with ⟨h0, a, e, rfl⟩ | ⟨h0, e, out, rfl⟩
    · refine .inl ⟨_, _, rfl, ⟨.ret, [(6, .sl 2 0 (rallL l codes b n.toNat [] 0).1.length (rallL l codes b n.toNat [] 0).1.length), (7, .int .i64 (rallL l codes b n.toNat [] 0).2.1), (8, .int .i64 0)], [nilI, rowI l.length codes, obI (rallL l codes b n.toNat [] 0).1]⟩, ?_, .inl ⟨h0, rfl⟩⟩
      rw [e]
      generalize (rallL l codes b n.toNat [] 0).1 = out
      refine ⟨0, ?_⟩
      simp -implicitDefEqProofs [-getElem?_pos, List.getElem?_cons_zero, List.getElem?_cons_succ, exec, runOps, dstOk, wantedV, AM.step, evalT, evalO, evalArgs, evalParts, getF, putF, afterRegion, assignV, boxOf, newBox, hasIdsP, keepF, ofVal, ofCell, plen, pesz, callV, builtinV, lenV, binV, unV, arith, shiftI, loadV, storeV, putV, indexAddrV, live, upd, pget, pset, psetA, pagg, retag, retagP, byteAV, freezeP, freezeV, joinTags, joinTag, tags, ids, scalar, cellsLen, eqV, convV, faV, fvV, shiftBy, shiftRo, raFr]
    · exact .inr ⟨by simp [blockOut], .inr ⟨h0, e, out, rfl⟩⟩

end Go.Proofs.Ytikleidhmekgnaa
