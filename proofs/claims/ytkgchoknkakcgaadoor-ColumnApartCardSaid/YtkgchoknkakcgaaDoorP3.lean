/- Walks: the document's column appended. -/
import Derived.Test.YtkgchoknkakcgaaDoorP2
namespace Go.Proofs.YtkgchoknkakcgaaDoor
open Go.AM
set_option linter.unusedSimpArgs false
set_option linter.unusedVariables false

theorem bsN6 (s t ot n on : List UInt8) (H : AM.Heap) : buildSliceV X H 44 6 [(0, .str [100, 101, 102]), (1, .str s), (2, .str t), (3, .str ot), (4, .str n), (5, .str on)] = some (.ro 1 (.pc [.str [100, 101, 102], .str s, .str t, .str ot, .str n, .str on]) 0, H) := by kernel_rfl

/-- the first i of all texts -/
def t6B (x : Co) (i : Nat) : List UInt8 := ((defB :: x.nms).take i).flatMap aT
theorem t6_6 (x : Co) : t6B x 6 = txB x 5 := by
  show ((defB :: x.nms).take (5 + 1)).flatMap aT = _
  rw [List.take_succ_cons, List.flatMap_cons]; rfl
theorem t6_len {x : Co} (h : x.small) : ∀ i, (t6B x i).length ≤ 4000
  | 0 => by simp [t6B]
  | i + 1 => by
    have := txB_len h i
    show (((defB :: x.nms).take (i + 1)).flatMap aT).length ≤ _
    rw [List.take_succ_cons, List.flatMap_cons]
    exact this
theorem t6_succ {x : Co} {i : Nat} {s : List UInt8} (h : (defB :: x.nms)[i]? = some s) : t6B x (i + 1) = t6B x i ++ aT s := by
  unfold t6B
  rw [List.take_add_one, h]
  simp
theorem t6_at (x : Co) {i : Nat} (h : i < 6) : ∃ s, (defB :: x.nms)[i]? = some s ∧ [AV.str [100, 101, 102], .str x.s, .str x.t, .str x.ot, .str x.n, .str x.on][i]? = some (.str s) := by
  match i, h with
  | 0, _ => exact ⟨_, rfl, rfl⟩
  | 1, _ => exact ⟨_, rfl, rfl⟩
  | 2, _ => exact ⟨_, rfl, rfl⟩
  | 3, _ => exact ⟨_, rfl, rfl⟩
  | 4, _ => exact ⟨_, rfl, rfl⟩
  | 5, _ => exact ⟨_, rfl, rfl⟩
theorem t6_small {x : Co} (h : x.small) {i : Nat} {s : List UInt8} (hs : (defB :: x.nms)[i]? = some s) : s.length ≤ 255 := by
  match i, hs with
  | 0, hs => obtain rfl := Option.some.inj hs; simp [defB]
  | i + 1, hs => exact (small_iff x).1 h i s hs

def rapFr (L : List AV) (o n i : Nat) : AM.Frame := [(3, .ptr 0 0 0 0), (7, .ro 1 (.pc L) 0), (8, .sl o 0 n 0), (9, .int .i64 (i : Nat))]

section
variable (c : Nat) (b : List UInt8) (x : Co)

set_option maxRecDepth 100000 in
theorem rappend_code (hx : CoOk x) (hc : c = 0 → b = []) (hb : b.length ≤ 100000) : ∃ code, Tryd.f10.body = some code ∧
    Tells (Rets fun fr H => ∃ o g ob, getF fr 4 = .sl o 0 (apR b x).1.length g ∧ getF fr 5 = .int .i64 (apR b x).2 ∧ H[o]? = some (some ob) ∧ Rw (.pb (apR b x).1) g ob) X (evT X) 10 0 code [(0, .ro c (.pb b) 1), (1, .agg x.pay)] [] := by
  refine ⟨_, rfl, ?_⟩
  have hC := rcheck_ev (H := [some (coO x), some nilB]) hx.ty
  apply Tells.seq (fr' := [(0, .ro c (.pb b) 1), (3, .ptr 0 0 0 0)]) (H' := [some (coO x), some nilB])
  · (refine ⟨0, ?_⟩; simp (maxSteps := 2000000) -implicitDefEqProofs [-getElem?_pos, List.getElem?_cons_zero, List.getElem?_cons_succ, exec, runOps, dstOk, wantedV, AM.step, evalT, evalO, evalArgs, evalParts, getF, putF, afterRegion, assignV, boxOf, newBox, hasIdsP, keepF, ofVal, ofCell, plen, pesz, callV, builtinV, lenV, binV, unV, arith, shiftI, loadV, storeV, putV, indexAddrV, live, upd, pget, pset, psetA, pagg, retag, retagP, byteAV, freezeP, freezeV, joinTags, joinTag, tags, ids, scalar, cellsLen, eqV, convV, faV, fvV, shiftBy, shiftRo, coO, Co.pay, assignV, emB])
  unfold apR
  by_cases h0 : chk x = 0
  case neg =>
    rw [if_neg h0]
    have h0b : (chk x != 0) = true := by simpa using h0
    refine Tells.of (o := ⟨.ret, [(4, .sl 2 0 0 0), (5, .int .i64 (chk x))], [some (coO x), some nilB, some nilB]⟩) ⟨0, ?_⟩ ⟨rfl, 2, 0, nilB, rfl, rfl, rfl, nilB_rw⟩
    simp only [coO, Co.pay] at hC
    simp (maxSteps := 2000000) -implicitDefEqProofs [-getElem?_pos, List.getElem?_cons_zero, List.getElem?_cons_succ, exec, runOps, dstOk, wantedV, AM.step, evalT, evalO, evalArgs, evalParts, getF, putF, afterRegion, assignV, boxOf, newBox, hasIdsP, keepF, ofVal, ofCell, plen, pesz, callV, builtinV, lenV, binV, unV, arith, shiftI, loadV, storeV, putV, indexAddrV, live, upd, pget, pset, psetA, pagg, retag, retagP, byteAV, freezeP, freezeV, joinTags, joinTag, tags, ids, scalar, cellsLen, eqV, convV, faV, fvV, shiftBy, shiftRo, coO, Co.pay, hC, mkCo, h0, h0b, assignV, emB]
  rw [if_pos h0]
  rw [h0] at hC
  have hsm := chk_small h0
  have hb0 := fun H => bs0 H
  have hA0 := app_lit (H := [some (coO x), some nilB]) (m := b) (src := .ro c (.pb b) 1) (srcB (.inl rfl)) (by omega)
  have hw0 : Rw (.pb b) 0 ⟨.pb b, 0, .none, 1, true, false, 0⟩ := ⟨rfl, rfl, rfl, rfl, rfl⟩
  generalize (⟨.pb b, 0, .none, 1, true, false, 0⟩ : AM.Obj) = ob0 at *
  have hat := fun i h => t6_at x (i := i) h
  apply Tells.seq (fr' := [(0, .ro c (.pb b) 1), (3, .ptr 0 0 0 0), (6, .int .i64 0)]) (H' := [some (coO x), some nilB])
  · simp only [coO, Co.pay] at hC
    (refine ⟨0, ?_⟩; simp (maxSteps := 2000000) -implicitDefEqProofs [-getElem?_pos, List.getElem?_cons_zero, List.getElem?_cons_succ, exec, runOps, dstOk, wantedV, AM.step, evalT, evalO, evalArgs, evalParts, getF, putF, afterRegion, assignV, boxOf, newBox, hasIdsP, keepF, ofVal, ofCell, plen, pesz, callV, builtinV, lenV, binV, unV, arith, shiftI, loadV, storeV, putV, indexAddrV, live, upd, pget, pset, psetA, pagg, retag, retagP, byteAV, freezeP, freezeV, joinTags, joinTag, tags, ids, scalar, cellsLen, eqV, convV, faV, fvV, shiftBy, shiftRo, coO, Co.pay, hC, mkCo])
  apply Tells.seq
  · (refine ⟨0, ?_⟩; conv => lhs; simp (maxSteps := 2000000) -implicitDefEqProofs [-getElem?_pos, List.getElem?_cons_zero, List.getElem?_cons_succ, exec, runOps, dstOk, wantedV, AM.step, evalT, evalO, evalArgs, evalParts, getF, putF, afterRegion, assignV, boxOf, newBox, hasIdsP, keepF, ofVal, ofCell, plen, pesz, callV, builtinV, lenV, binV, unV, arith, shiftI, loadV, storeV, putV, indexAddrV, live, upd, pget, pset, psetA, pagg, retag, retagP, byteAV, freezeP, freezeV, joinTags, joinTag, tags, ids, scalar, cellsLen, eqV, convV, faV, fvV, shiftBy, shiftRo])
  have hw0' : Rw (.pb (b ++ t6B x 0)) 0 ob0 := by simpa [t6B] using hw0
  apply Tells.seq (fr' := [(0, .ro c (.pb b) 1), (3, .ptr 0 0 0 0), (7, .ro 1 (.pc [.str [100, 101, 102], .str x.s, .str x.t, .str x.ot, .str x.n, .str x.on]) 0)]) (H' := [some (coO x), some nilB])
  · (refine ⟨0, ?_⟩; simp (maxSteps := 2000000) -implicitDefEqProofs [-getElem?_pos, List.getElem?_cons_zero, List.getElem?_cons_succ, exec, runOps, dstOk, wantedV, AM.step, evalT, evalO, evalArgs, evalParts, getF, putF, afterRegion, assignV, boxOf, newBox, hasIdsP, keepF, ofVal, ofCell, plen, pesz, callV, builtinV, lenV, binV, unV, arith, shiftI, loadV, storeV, putV, indexAddrV, live, upd, pget, pset, psetA, pagg, retag, retagP, byteAV, freezeP, freezeV, joinTags, joinTag, tags, ids, scalar, cellsLen, eqV, convV, faV, fvV, shiftBy, shiftRo, coO, Co.pay, bsN6, assignV])
  have hLl : [AV.str [100, 101, 102], .str x.s, .str x.t, .str x.ot, .str x.n, .str x.on].length = 6 := rfl
  generalize [AV.str [100, 101, 102], .str x.s, .str x.t, .str x.ot, .str x.n, .str x.on] = L at *
  apply Tells.seq (fr' := [(3, .ptr 0 0 0 0), (7, .ro 1 (.pc L) 0), (8, .sl 2 0 (b ++ t6B x 0).length 0)]) (H' := [some (coO x), some nilB, some ob0])
  · have e : b.length = (b ++ t6B x 0).length := by simp [t6B]
    rw [e] at hA0
    generalize (b ++ t6B x 0).length = n0 at *
    simp only [coO, Co.pay] at hA0
    (refine ⟨0, ?_⟩; simp (maxSteps := 2000000) -implicitDefEqProofs [-getElem?_pos, List.getElem?_cons_zero, List.getElem?_cons_succ, exec, runOps, dstOk, wantedV, AM.step, evalT, evalO, evalArgs, evalParts, getF, putF, afterRegion, assignV, boxOf, newBox, hasIdsP, keepF, ofVal, ofCell, plen, pesz, callV, builtinV, lenV, binV, unV, arith, shiftI, loadV, storeV, putV, indexAddrV, live, upd, pget, pset, psetA, pagg, retag, retagP, byteAV, freezeP, freezeV, joinTags, joinTag, tags, ids, scalar, cellsLen, eqV, convV, faV, fvV, shiftBy, shiftRo, hb0, hA0, assignV, coO, Co.pay])
  clear hA0 hC
  apply Tells.andThen (P := fun fr H => ∃ e1 e2 e3 e4 e5 ob5, fr = rapFr L 8 (b ++ t6B x 6).length 6 ++ [(32, .bool false)] ∧ H = [some (coO x), some nilB, some ob0, e1, e2, e3, e4, e5, some ob5] ∧ Rw (.pb (b ++ t6B x 6)) 0 ob5)
  · apply Tells.seq (fr' := rapFr L 2 (b ++ t6B x 0).length 0) (H' := [some (coO x), some nilB, some ob0])
    · generalize (b ++ t6B x 0).length = n0 at *
      (refine ⟨0, ?_⟩; simp (maxSteps := 2000000) -implicitDefEqProofs [-getElem?_pos, List.getElem?_cons_zero, List.getElem?_cons_succ, exec, runOps, dstOk, wantedV, AM.step, evalT, evalO, evalArgs, evalParts, getF, putF, afterRegion, assignV, boxOf, newBox, hasIdsP, keepF, ofVal, ofCell, plen, pesz, callV, builtinV, lenV, binV, unV, arith, shiftI, loadV, storeV, putV, indexAddrV, live, upd, pget, pset, psetA, pagg, retag, retagP, byteAV, freezeP, freezeV, joinTags, joinTag, tags, ids, scalar, cellsLen, eqV, convV, faV, fvV, shiftBy, shiftRo, rapFr])
    apply Tells.block
    refine Tells.loop (σ := Nat × AM.Heap) (fun s => s.1 ≤ 6 ∧ s.2.length = s.1 ∧ ∃ ob, ([some (coO x), some nilB, some ob0] ++ s.2)[s.1 + 2]? = some (some ob) ∧ Rw (.pb (b ++ t6B x s.1)) 0 ob) (fun s => rapFr L (s.1 + 2) (b ++ t6B x s.1).length s.1) (fun s => [some (coO x), some nilB, some ob0] ++ s.2) (fun s => 6 - s.1) ?_ (0, []) ⟨by simp, rfl, ob0, rfl, hw0'⟩
    rintro ⟨i, E⟩ ⟨hi, hE, ob, ho, hw⟩
    simp only at hi hE ho hw ⊢
    by_cases hin : i = 6
    · right
      subst hin
      match E, hE with
      | [e1, e2, e3, e4, e5, e6], _ =>
        obtain rfl := Option.some.inj ho
        refine ⟨⟨.exit 0, rapFr L 8 (b ++ t6B x 6).length 6 ++ [(32, .bool false)], [some (coO x), some nilB, some ob0, e1, e2, e3, e4, e5, some ob]⟩, ⟨rfl, e1, e2, e3, e4, e5, ob, rfl, rfl, hw⟩, by simp, ?_⟩
        generalize (b ++ t6B x 6).length = n5 at *
        (refine ⟨0, ?_⟩; simp (maxSteps := 2000000) -implicitDefEqProofs [-getElem?_pos, List.getElem?_cons_zero, List.getElem?_cons_succ, exec, runOps, dstOk, wantedV, AM.step, evalT, evalO, evalArgs, evalParts, getF, putF, afterRegion, assignV, boxOf, newBox, hasIdsP, keepF, ofVal, ofCell, plen, pesz, callV, builtinV, lenV, binV, unV, arith, shiftI, loadV, storeV, putV, indexAddrV, live, upd, pget, pset, psetA, pagg, retag, retagP, byteAV, freezeP, freezeV, joinTags, joinTag, tags, ids, scalar, cellsLen, eqV, convV, faV, fvV, shiftBy, shiftRo, rapFr, hLl])
    · left
      have hi5 : i < 6 := by omega
      have hiI : (i : Int) < 6 := by omega
      obtain ⟨s, hs, hL⟩ := hat i hi5
      have hsl : s.length ≤ 255 := t6_small hsm hs
      have w1 : IntKind.i64.wrap ((i : Int) + 1) = ((i + 1 : Nat) : Int) := by rw [wrap_i64 (by omega) (by omega)]; omega
      have hl := t6_len hsm i
      obtain ⟨ob', hw', hA⟩ := rappendText_ev (H := [some (coO x), some nilB, some ob0] ++ E) (a := .sl (i + 2) 0 (b ++ t6B x i).length 0) (b := b ++ t6B x i) (s := s) (Byt.whole ho hw) (by simp; omega) (by omega)
      rw [List.append_assoc, ← t6_succ hs] at hw'
      rw [List.append_assoc b, ← t6_succ hs] at hA
      have hlen : ([some (coO x), some nilB, some ob0] ++ E).length = i + 1 + 2 := by simp; omega
      rw [hlen] at hA
      refine ⟨(i + 1, E ++ [some ob']), ⟨by omega, by simp; omega, ob', ?_, hw'⟩, ?_, by omega⟩
      · simp only
        rw [← List.append_assoc, List.getElem?_append_right (by omega), hlen]
        simp
      · simp only
        rw [← List.append_assoc]
        generalize [some (coO x), some nilB, some ob0] ++ E = H at *
        generalize (b ++ t6B x i).length = n1 at *
        generalize (b ++ t6B x (i + 1)).length = n2 at *
        (refine ⟨0, ?_⟩; simp (maxSteps := 2000000) -implicitDefEqProofs [-getElem?_pos, List.getElem?_cons_zero, List.getElem?_cons_succ, exec, runOps, dstOk, wantedV, AM.step, evalT, evalO, evalArgs, evalParts, getF, putF, afterRegion, assignV, boxOf, newBox, hasIdsP, keepF, ofVal, ofCell, plen, pesz, callV, builtinV, lenV, binV, unV, arith, shiftI, loadV, storeV, putV, indexAddrV, live, upd, pget, pset, psetA, pagg, retag, retagP, byteAV, freezeP, freezeV, joinTags, joinTag, tags, ids, scalar, cellsLen, eqV, convV, faV, fvV, shiftBy, shiftRo, rapFr, hiI, hi5, hLl, hL, w1, hA, assignV])
  rintro fr H ⟨e1, e2, e3, e4, e5, ob5, rfl, rfl, hw5⟩
  rw [t6_6] at hw5 ⊢
  have hl5 := txB_len hsm 5
  have e12 : ((12 : UInt8).toNat : Int) = 12 := rfl
  have hb12 := fun H => bs1 H 12
  rw [e12] at hb12
  obtain ⟨ob6, hw6, hA6⟩ := app_b (H := [some (coO x), some nilB, some ob0, e1, e2, e3, e4, e5, some ob5]) (o := 8) (m := [12]) (src := .ro 1 (.pb [12]) 0) rfl hw5 (.inl rfl) (by simp; omega)
  obtain ⟨ob7, hw7, hA7⟩ := rfix_ev (H := [some (coO x), some nilB, some ob0, e1, e2, e3, e4, e5, some ob6]) (a := .sl 8 0 (b ++ txB x 5 ++ [12]).length 1) (b := b ++ txB x 5 ++ [12]) (x := x.cs) (n := 2) (N := 2) (Byt.whole rfl hw6) rfl (by simp; omega) (by omega) (by omega) hx.cs
  have l6 : (b ++ txB x 5 ++ [12] ++ leB 2 x.cs).length = (b ++ txB x 5).length + 3 := by simp [leB_len]; omega
  obtain ⟨ob8, hw8, hA8⟩ := rfix_ev (H := [some (coO x), some nilB, some ob0, e1, e2, e3, e4, e5, some ob6, some ob7]) (a := .sl 9 0 (b ++ txB x 5 ++ [12] ++ leB 2 x.cs).length 0) (b := b ++ txB x 5 ++ [12] ++ leB 2 x.cs) (x := x.ln) (n := 4) (N := 4) (Byt.whole rfl hw7) rfl (by simp [leB_len]; omega) (by omega) (by omega) hx.ln
  have l7 : (b ++ txB x 5 ++ [12] ++ leB 2 x.cs ++ leB 4 x.ln).length = (b ++ txB x 5).length + 7 := by simp [leB_len]; omega
  have l5 : (b ++ txB x 5 ++ [12]).length = (b ++ txB x 5).length + 1 := by simp; omega
  rw [l5] at hA7
  rw [l6] at hA8
  apply Tells.seq (fr' := [(3, .ptr 0 0 0 0), (8, .sl 10 0 ((b ++ txB x 5).length + 7) 0)]) (H' := [some (coO x), some nilB, some ob0, e1, e2, e3, e4, e5, some ob6, some ob7, some ob8])
  · have hg := hw5.g
    have hpp := hw5.p
    have hids := hw5.ids
    have hg6 := hw6.g
    have hpp6 := hw6.p
    have hids6 := hw6.ids
    have hg7 := hw7.g
    have hpp7 := hw7.p
    have hids7 := hw7.ids
    have wc : IntKind.u64.wrap (x.cs : Int) = (x.cs : Int) := wrap_u64 (by omega) (by have := hx.cs; omega)
    have wl : IntKind.u64.wrap (x.ln : Int) = (x.ln : Int) := wrap_u64 (by omega) (by have := hx.ln; omega)
    have lp5 := l5
    have lp6 := l6
    clear hw5 hw6 hw7 hw8 l7
    generalize b ++ txB x 5 ++ [12] ++ leB 2 x.cs = B6 at *
    generalize b ++ txB x 5 ++ [12] = B5 at *
    generalize b ++ txB x 5 = B4 at *
    simp only [List.length_cons, List.length_nil, coO, Co.pay, List.cons_append, List.nil_append] at hA6 hA7 hA8
    apply Run.dy (by simp) keep10_10 (by simp)
    · (conv => lhs; simp (maxSteps := 2000000) -implicitDefEqProofs [-getElem?_pos, List.getElem?_cons_zero, List.getElem?_cons_succ, exec, runOps, dstOk, wantedV, AM.step, evalT, evalO, evalArgs, evalParts, getF, putF, afterRegion, assignV, boxOf, newBox, hasIdsP, keepF, ofVal, ofCell, plen, pesz, callV, builtinV, lenV, binV, unV, arith, shiftI, loadV, storeV, putV, indexAddrV, live, upd, pget, pset, psetA, pagg, retag, retagP, byteAV, freezeP, freezeV, joinTags, joinTag, tags, ids, scalar, cellsLen, eqV, convV, faV, fvV, shiftBy, shiftRo, runD, out1, markOf, freeO, quietO, pushes, isAssign, calledV, touched, mentioned, opVals, touchCall, mentionCall, idsAt, Op.operands, ids, idsL, lendArgs, lendV, lend1, lendL, coO, Co.pay, rapFr, hb12, hA6, hA7, hA8, upd, wc, wl, assignV, reach_none, hg, hpp, hids, hg6, hpp6, hids6, hg7, hpp7, hids7, psub, lp5, lp6])
      rfl
    · kernel_rfl
    · rfl
  obtain ⟨ob9, hw9, hA9⟩ := app_b (H := [some (coO x), some nilB, some ob0, e1, e2, e3, e4, e5, some ob6, some ob7, some ob8]) (o := 10) (m := [UInt8.ofNat x.ty]) (src := .ro 1 (.pb [UInt8.ofNat x.ty]) 0) rfl hw8 (.inl rfl) (by rw [l7]; simp; omega)
  have etn : (UInt8.ofNat x.ty).toNat = x.ty := by simp; exact hx.ty
  have hbt := fun H => bs1 H (UInt8.ofNat x.ty)
  rw [etn] at hbt
  have l8 : (b ++ txB x 5 ++ [12] ++ leB 2 x.cs ++ leB 4 x.ln ++ [UInt8.ofNat x.ty]).length = (b ++ txB x 5).length + 8 := by simp [leB_len]; omega
  obtain ⟨ob10, hw10, hA10⟩ := rfix_ev (H := [some (coO x), some nilB, some ob0, e1, e2, e3, e4, e5, some ob6, some ob7, some ob9]) (a := .sl 10 0 (b ++ txB x 5 ++ [12] ++ leB 2 x.cs ++ leB 4 x.ln ++ [UInt8.ofNat x.ty]).length 1) (b := b ++ txB x 5 ++ [12] ++ leB 2 x.cs ++ leB 4 x.ln ++ [UInt8.ofNat x.ty]) (x := x.fl) (n := 2) (N := 2) (Byt.whole rfl hw9) rfl (by simp [leB_len]; omega) (by omega) (by omega) hx.fl
  have l9 : (b ++ txB x 5 ++ [12] ++ leB 2 x.cs ++ leB 4 x.ln ++ [UInt8.ofNat x.ty] ++ leB 2 x.fl).length = (b ++ txB x 5).length + 10 := by simp [leB_len]; omega
  rw [l7] at hA9
  rw [l8] at hA10
  apply Tells.seq (fr' := [(3, .ptr 0 0 0 0), (8, .sl 11 0 ((b ++ txB x 5).length + 10) 0)]) (H' := [some (coO x), some nilB, some ob0, e1, e2, e3, e4, e5, some ob6, some ob7, some ob9, some ob10])
  · have hg := hw8.g
    have hpp := hw8.p
    have hids := hw8.ids
    have hg6 := hw9.g
    have hpp6 := hw9.p
    have hids6 := hw9.ids
    have wc : IntKind.u64.wrap (x.fl : Int) = (x.fl : Int) := wrap_u64 (by omega) (by have := hx.fl; omega)
    have lp7 := l7
    have lp8 := l8
    clear hw8 hw9 hw10 hw7 hw6 hw5 l9
    generalize b ++ txB x 5 ++ [12] ++ leB 2 x.cs ++ leB 4 x.ln ++ [UInt8.ofNat x.ty] = B8 at *
    generalize b ++ txB x 5 ++ [12] ++ leB 2 x.cs ++ leB 4 x.ln = B7 at *
    generalize (b ++ txB x 5).length = n1 at *
    generalize UInt8.ofNat x.ty = ty at *
    simp only [List.length_cons, List.length_nil, coO, Co.pay, List.cons_append, List.nil_append] at hA9 hA10
    apply Run.dy (by simp) keep10_11 (by simp)
    · (conv => lhs; simp (maxSteps := 2000000) -implicitDefEqProofs [-getElem?_pos, List.getElem?_cons_zero, List.getElem?_cons_succ, exec, runOps, dstOk, wantedV, AM.step, evalT, evalO, evalArgs, evalParts, getF, putF, afterRegion, assignV, boxOf, newBox, hasIdsP, keepF, ofVal, ofCell, plen, pesz, callV, builtinV, lenV, binV, unV, arith, shiftI, loadV, storeV, putV, indexAddrV, live, upd, pget, pset, psetA, pagg, retag, retagP, byteAV, freezeP, freezeV, joinTags, joinTag, tags, ids, scalar, cellsLen, eqV, convV, faV, fvV, shiftBy, shiftRo, runD, out1, markOf, freeO, quietO, pushes, isAssign, calledV, touched, mentioned, opVals, touchCall, mentionCall, idsAt, Op.operands, ids, idsL, lendArgs, lendV, lend1, lendL, coO, Co.pay, hbt, hA9, hA10, upd, wc, assignV, reach_none, hg, hpp, hids, hg6, hpp6, hids6, psub, lp7, lp8])
      rfl
    · kernel_rfl
    · rfl
  obtain ⟨ob11, hw11, hA11⟩ := app_b (H := [some (coO x), some nilB, some ob0, e1, e2, e3, e4, e5, some ob6, some ob7, some ob9, some ob10]) (o := 11) (m := [UInt8.ofNat x.dc, 0, 0]) (src := .ro 1 (.pb [UInt8.ofNat x.dc, 0, 0]) 0) rfl hw10 (.inl rfl) (by rw [l9]; simp; omega)
  have edn : (UInt8.ofNat x.dc).toNat = x.dc := by simp; exact hx.dc
  have hbd := fun H => bs3 H (UInt8.ofNat x.dc)
  rw [edn] at hbd
  rw [l9] at hA11
  have hfin : b ++ txB x 5 ++ [12] ++ leB 2 x.cs ++ leB 4 x.ln ++ [UInt8.ofNat x.ty] ++ leB 2 x.fl ++ [UInt8.ofNat x.dc, 0, 0] = b ++ coB' x := by simp [coB', tlB]
  have hfl : (b ++ coB' x).length = (b ++ txB x 5).length + 13 := by rw [← hfin]; simp [leB_len]; omega
  rw [hfin] at hw11
  rw [hfl]
  refine Tells.of (o := ⟨.ret, [(4, .sl 11 0 ((b ++ txB x 5).length + 13) 1), (5, .int .i64 0)], [some (coO x), some nilB, some ob0, e1, e2, e3, e4, e5, some ob6, some ob7, some ob9, some ob11]⟩) ⟨0, ?_⟩ ⟨rfl, 11, 1, ob11, rfl, rfl, rfl, hw11⟩
  generalize (b ++ txB x 5).length = n1 at *
  generalize UInt8.ofNat x.dc = dc at *
  simp only [List.length_cons, List.length_nil, coO, Co.pay, List.cons_append, List.nil_append] at hA11
  simp (maxSteps := 2000000) -implicitDefEqProofs [-getElem?_pos, List.getElem?_cons_zero, List.getElem?_cons_succ, exec, runOps, dstOk, wantedV, AM.step, evalT, evalO, evalArgs, evalParts, getF, putF, afterRegion, assignV, boxOf, newBox, hasIdsP, keepF, ofVal, ofCell, plen, pesz, callV, builtinV, lenV, binV, unV, arith, shiftI, loadV, storeV, putV, indexAddrV, live, upd, pget, pset, psetA, pagg, retag, retagP, byteAV, freezeP, freezeV, joinTags, joinTag, tags, ids, scalar, cellsLen, eqV, convV, faV, fvV, shiftBy, shiftRo, coO, Co.pay, hbd, hA11, upd, assignV]

end

theorem rappend_ev {H : AM.Heap} {a : AV} {b : List UInt8} {x : Co} (hx : CoOk x) (h : Byt H a b) (hb : b.length ≤ 100000) :
    ∃ ob, Rw (.pb (apR b x).1) 0 ob ∧ evT X 10 [a, .agg x.pay] H = some (.tup [.sl H.length 0 (apR b x).1.length 0, .int .i64 (apR b x).2], H ++ [some ob]) := by
  obtain ⟨cb, pb, xl, hpb, hcb, hx'⟩ := args_byt (C := X) (f := 10) (i := 0) rfl h (args_co (f := 10) (i := 1) (x := x) (args_nil 2))
  obtain ⟨code, hcode, hr⟩ := rappend_code cb b x hx hcb hb
  obtain ⟨ob, q1, q2⟩ := Ev1.newB (H := H) (n := (apR b x).1.length) (l := (apR b x).1) (rest := [.int .i64 (apR b x).2]) (evT_below X) Tryd.func10 hcode hx' (by simp [Co.pay, idsL, ids, hpb.ids]) (by simp [gtag]) rfl rfl rfl (by
    obtain ⟨o, ⟨he, o1, g, ob, q1, q2, q3, q4⟩, hrun⟩ := hr
    exact ⟨o, ⟨he, o1, g, ob, by show some [getF o.fr 4, getF o.fr 5] = _; rw [q1, q2], q3, q4⟩, by rw [par10, coB hpb]; exact hrun⟩)
  exact ⟨ob, q1, evT_eq q2⟩

end Go.Proofs.YtkgchoknkakcgaaDoor
