/- Walks: a column appended. -/
import Derived.Test.YtkgchoknkakcgaaP1
namespace Go.Proofs.Ytkgchoknkakcgaa
open Go.AM
set_option linter.unusedSimpArgs false
set_option linter.unusedVariables false

def defB : List UInt8 := [100, 101, 102]
/-- a column's texts -/
def txB (x : Co) (i : Nat) : List UInt8 := aT defB ++ (x.nms.take i).flatMap aT
/-- behind the texts -/
def tlB (x : Co) : List UInt8 := 12 :: (leB 2 x.cs ++ (leB 4 x.ln ++ (UInt8.ofNat x.ty :: (leB 2 x.fl ++ [UInt8.ofNat x.dc, 0, 0]))))
/-- a column's bytes -/
def coB' (x : Co) : List UInt8 := txB x 5 ++ tlB x
/-- a column appended -/
def apR (b : List UInt8) (x : Co) : List UInt8 × Int := if chk x = 0 then (b ++ coB' x, 0) else ([], chk x)

theorem chk_small {x : Co} (h : chk x = 0) : x.small := by
  unfold chk at h
  by_cases hs : x.small ∧ kn x.ty = true
  · exact hs.1
  · rw [if_neg hs] at h; cases h

theorem aT_len (s : List UInt8) : (aT s).length = szI s.length + s.length := by simp [aT, aI_len]

theorem txB_len {x : Co} (h : x.small) (i : Nat) : (txB x i).length ≤ 4000 := by
  obtain ⟨h0, h1, h2, h3, h4⟩ := h
  have z : ∀ n, szI n ≤ 9 := fun n => (szI_le n).2
  have z0 := z x.s.length
  have z1 := z x.t.length
  have z2 := z x.ot.length
  have z3 := z x.n.length
  have z4 := z x.on.length
  have hd : (aT defB).length = 4 := rfl
  unfold txB
  rw [List.length_append, hd]
  match i with
  | 0 => simp
  | 1 => simp [Co.nms, aT_len]; omega
  | 2 => simp [Co.nms, aT_len]; omega
  | 3 => simp [Co.nms, aT_len]; omega
  | 4 => simp [Co.nms, aT_len]; omega
  | i + 5 => simp [Co.nms, aT_len]; omega

theorem txB_succ {x : Co} {i : Nat} {s : List UInt8} (h : x.nms[i]? = some s) : txB x (i + 1) = txB x i ++ aT s := by
  unfold txB
  rw [List.take_add_one, h]
  simp

theorem lendB {H : AM.Heap} {o n g : Nat} {ob : AM.Obj} {l : List UInt8} {t : Nat} (ho : H[o]? = some (some ob)) (hw : Rw (.pb l) g ob) : live H o g = some ob := by simp [live, ho, hw.g]

def apFr (L : List AV) (o n i : Nat) : AM.Frame := [(3, .ptr 0 0 0 0), (7, .sl o 0 n 0), (27, .ro 1 (.pc L) 0), (28, .int .i64 5), (29, .int .i64 (i : Nat))]

section
variable (c : Nat) (b : List UInt8) (x : Co)

set_option maxRecDepth 100000 in
theorem append_code (hx : CoOk x) (hc : c = 0 → b = []) (hb : b.length ≤ 100000) : ∃ code, Try.f14.body = some code ∧
    Tells (Rets fun fr H => ∃ o g ob, getF fr 4 = .sl o 0 (apR b x).1.length g ∧ getF fr 5 = .int .i64 (apR b x).2 ∧ H[o]? = some (some ob) ∧ Rw (.pb (apR b x).1) g ob) X (evT X) 14 0 code [(0, .ro c (.pb b) 1), (1, .agg x.pay)] [] := by
  refine ⟨_, rfl, ?_⟩
  have hC := check_ev (H := [some (coO x), some nilB]) hx.ty
  apply Tells.seq (fr' := [(0, .ro c (.pb b) 1), (3, .ptr 0 0 0 0)]) (H' := [some (coO x), some nilB])
  · (refine ⟨0, ?_⟩; simp (maxSteps := 2000000) -implicitDefEqProofs [-getElem?_pos, List.getElem?_cons_zero, List.getElem?_cons_succ, exec, runOps, dstOk, wantedV, AM.step, evalT, evalO, evalArgs, evalParts, getF, putF, afterRegion, assignV, boxOf, newBox, hasIdsP, keepF, ofVal, ofCell, plen, pesz, callV, builtinV, lenV, binV, unV, arith, shiftI, loadV, storeV, putV, indexAddrV, live, upd, pget, pset, psetA, pagg, retag, retagP, byteAV, freezeP, freezeV, joinTags, joinTag, tags, ids, scalar, cellsLen, eqV, convV, faV, fvV, shiftBy, shiftRo, coO, Co.pay, assignV, emB])
  unfold apR
  by_cases h0 : chk x = 0
  case neg =>
    rw [if_neg h0]
    have h0b : (chk x != 0) = true := by simpa using h0
    refine Tells.of (o := ⟨.ret, [(4, .sl 2 0 0 0), (5, .int .i64 (chk x))], [some (coO x), some nilB, some nilB]⟩) ⟨0, ?_⟩ ⟨rfl, 2, 0, nilB, rfl, rfl, rfl, nilB_rw⟩
    simp only [coO, Co.pay] at hC
    simp (maxSteps := 2000000) -implicitDefEqProofs [-getElem?_pos, List.getElem?_cons_zero, List.getElem?_cons_succ, exec, runOps, dstOk, wantedV, AM.step, evalT, evalO, evalArgs, evalParts, getF, putF, afterRegion, assignV, boxOf, newBox, hasIdsP, keepF, ofVal, ofCell, plen, pesz, callV, builtinV, lenV, binV, unV, arith, shiftI, loadV, storeV, putV, indexAddrV, live, upd, pget, pset, psetA, pagg, retag, retagP, byteAV, freezeP, freezeV, joinTags, joinTag, tags, ids, scalar, cellsLen, eqV, convV, faV, fvV, shiftBy, shiftRo, coO, Co.pay, hC, mkCo, h0, h0b, assignV, emB]
  rw [if_pos h0]
  rw [h0] at hC
  have hsm := chk_small h0
  obtain ⟨ob0, hw0, hA0⟩ := appendText_ev (H := [some (coO x), some nilB]) (a := .ro c (.pb b) 1) (b := b) (s := defB) (Byt.ro (.inl rfl) hc) (by omega) (by simp [defB])
  have hat := fun i h => nms_at x (i := i) h
  apply Tells.assoc
  apply Tells.seq (fr' := [(0, .ro c (.pb b) 1), (3, .ptr 0 0 0 0), (6, .int .i64 0)]) (H' := [some (coO x), some nilB])
  · simp only [coO, Co.pay] at hC
    (refine ⟨0, ?_⟩; simp (maxSteps := 2000000) -implicitDefEqProofs [-getElem?_pos, List.getElem?_cons_zero, List.getElem?_cons_succ, exec, runOps, dstOk, wantedV, AM.step, evalT, evalO, evalArgs, evalParts, getF, putF, afterRegion, assignV, boxOf, newBox, hasIdsP, keepF, ofVal, ofCell, plen, pesz, callV, builtinV, lenV, binV, unV, arith, shiftI, loadV, storeV, putV, indexAddrV, live, upd, pget, pset, psetA, pagg, retag, retagP, byteAV, freezeP, freezeV, joinTags, joinTag, tags, ids, scalar, cellsLen, eqV, convV, faV, fvV, shiftBy, shiftRo, coO, Co.pay, hC, mkCo])
  apply Tells.seq
  · (refine ⟨0, ?_⟩; conv => lhs; simp (maxSteps := 2000000) -implicitDefEqProofs [-getElem?_pos, List.getElem?_cons_zero, List.getElem?_cons_succ, exec, runOps, dstOk, wantedV, AM.step, evalT, evalO, evalArgs, evalParts, getF, putF, afterRegion, assignV, boxOf, newBox, hasIdsP, keepF, ofVal, ofCell, plen, pesz, callV, builtinV, lenV, binV, unV, arith, shiftI, loadV, storeV, putV, indexAddrV, live, upd, pget, pset, psetA, pagg, retag, retagP, byteAV, freezeP, freezeV, joinTags, joinTag, tags, ids, scalar, cellsLen, eqV, convV, faV, fvV, shiftBy, shiftRo])
  have hw0' : Rw (.pb (b ++ txB x 0)) 0 ob0 := by simpa [txB] using hw0
  apply Tells.seq (fr' := [(3, .ptr 0 0 0 0), (7, .sl 2 0 (b ++ txB x 0).length 0)]) (H' := [some (coO x), some nilB, some ob0])
  · have e : (b ++ aT defB).length = (b ++ txB x 0).length := by simp [txB]
    rw [e] at hA0
    generalize (b ++ txB x 0).length = n0 at *
    simp only [coO, Co.pay, defB] at hA0
    (refine ⟨0, ?_⟩; simp (maxSteps := 2000000) -implicitDefEqProofs [-getElem?_pos, List.getElem?_cons_zero, List.getElem?_cons_succ, exec, runOps, dstOk, wantedV, AM.step, evalT, evalO, evalArgs, evalParts, getF, putF, afterRegion, assignV, boxOf, newBox, hasIdsP, keepF, ofVal, ofCell, plen, pesz, callV, builtinV, lenV, binV, unV, arith, shiftI, loadV, storeV, putV, indexAddrV, live, upd, pget, pset, psetA, pagg, retag, retagP, byteAV, freezeP, freezeV, joinTags, joinTag, tags, ids, scalar, cellsLen, eqV, convV, faV, fvV, shiftBy, shiftRo, hA0, assignV, coO, Co.pay])
  clear hA0 hC
  apply Tells.andThen (P := fun fr H => ∃ e1 e2 e3 e4 ob5, fr = apFr [.str x.s, .str x.t, .str x.ot, .str x.n, .str x.on] 7 (b ++ txB x 5).length 5 ++ [(30, .bool false)] ∧ H = [some (coO x), some nilB, some ob0, e1, e2, e3, e4, some ob5] ∧ Rw (.pb (b ++ txB x 5)) 0 ob5)
  · apply Tells.seq (fr' := apFr [.str x.s, .str x.t, .str x.ot, .str x.n, .str x.on] 2 (b ++ txB x 0).length 0) (H' := [some (coO x), some nilB, some ob0])
    · generalize (b ++ txB x 0).length = n0 at *
      (refine ⟨0, ?_⟩; simp (maxSteps := 2000000) -implicitDefEqProofs [-getElem?_pos, List.getElem?_cons_zero, List.getElem?_cons_succ, exec, runOps, dstOk, wantedV, AM.step, evalT, evalO, evalArgs, evalParts, getF, putF, afterRegion, assignV, boxOf, newBox, hasIdsP, keepF, ofVal, ofCell, plen, pesz, callV, builtinV, lenV, binV, unV, arith, shiftI, loadV, storeV, putV, indexAddrV, live, upd, pget, pset, psetA, pagg, retag, retagP, byteAV, freezeP, freezeV, joinTags, joinTag, tags, ids, scalar, cellsLen, eqV, convV, faV, fvV, shiftBy, shiftRo, coO, Co.pay, bsN, apFr])
    have hLl : [AV.str x.s, .str x.t, .str x.ot, .str x.n, .str x.on].length = 5 := rfl
    generalize [AV.str x.s, .str x.t, .str x.ot, .str x.n, .str x.on] = L at *
    apply Tells.block
    refine Tells.loop (σ := Nat × AM.Heap) (fun s => s.1 ≤ 5 ∧ s.2.length = s.1 ∧ ∃ ob, ([some (coO x), some nilB, some ob0] ++ s.2)[s.1 + 2]? = some (some ob) ∧ Rw (.pb (b ++ txB x s.1)) 0 ob) (fun s => apFr L (s.1 + 2) (b ++ txB x s.1).length s.1) (fun s => [some (coO x), some nilB, some ob0] ++ s.2) (fun s => 5 - s.1) ?_ (0, []) ⟨by simp, rfl, ob0, rfl, hw0'⟩
    rintro ⟨i, E⟩ ⟨hi, hE, ob, ho, hw⟩
    simp only at hi hE ho hw ⊢
    by_cases hin : i = 5
    · right
      subst hin
      match E, hE with
      | [e1, e2, e3, e4, e5], _ =>
        obtain rfl := Option.some.inj ho
        refine ⟨⟨.exit 0, apFr L 7 (b ++ txB x 5).length 5 ++ [(30, .bool false)], [some (coO x), some nilB, some ob0, e1, e2, e3, e4, some ob]⟩, ⟨rfl, e1, e2, e3, e4, ob, rfl, rfl, hw⟩, by simp, ?_⟩
        generalize (b ++ txB x 5).length = n5 at *
        (refine ⟨0, ?_⟩; simp (maxSteps := 2000000) -implicitDefEqProofs [-getElem?_pos, List.getElem?_cons_zero, List.getElem?_cons_succ, exec, runOps, dstOk, wantedV, AM.step, evalT, evalO, evalArgs, evalParts, getF, putF, afterRegion, assignV, boxOf, newBox, hasIdsP, keepF, ofVal, ofCell, plen, pesz, callV, builtinV, lenV, binV, unV, arith, shiftI, loadV, storeV, putV, indexAddrV, live, upd, pget, pset, psetA, pagg, retag, retagP, byteAV, freezeP, freezeV, joinTags, joinTag, tags, ids, scalar, cellsLen, eqV, convV, faV, fvV, shiftBy, shiftRo, apFr])
    · left
      have hi5 : i < 5 := by omega
      have hiI : (i : Int) < 5 := by omega
      obtain ⟨s, hs, hL⟩ := hat i hi5
      have hsl : s.length ≤ 255 := (small_iff x).1 hsm i s hs
      have w1 : IntKind.i64.wrap ((i : Int) + 1) = ((i + 1 : Nat) : Int) := by rw [wrap_i64 (by omega) (by omega)]; omega
      have hl := txB_len hsm i
      obtain ⟨ob', hw', hA⟩ := appendText_ev (H := [some (coO x), some nilB, some ob0] ++ E) (a := .sl (i + 2) 0 (b ++ txB x i).length 0) (b := b ++ txB x i) (s := s) (Byt.whole ho hw) (by simp; omega) (by omega)
      rw [List.append_assoc, ← txB_succ hs] at hw'
      rw [List.append_assoc b, ← txB_succ hs] at hA
      have hlen : ([some (coO x), some nilB, some ob0] ++ E).length = i + 1 + 2 := by simp; omega
      rw [hlen] at hA
      refine ⟨(i + 1, E ++ [some ob']), ⟨by omega, by simp; omega, ob', ?_, hw'⟩, ?_, by omega⟩
      · simp only
        rw [← List.append_assoc, List.getElem?_append_right (by omega), hlen]
        simp
      · simp only
        rw [← List.append_assoc]
        generalize [some (coO x), some nilB, some ob0] ++ E = H at *
        generalize (b ++ txB x i).length = n1 at *
        generalize (b ++ txB x (i + 1)).length = n2 at *
        (refine ⟨0, ?_⟩; simp (maxSteps := 2000000) -implicitDefEqProofs [-getElem?_pos, List.getElem?_cons_zero, List.getElem?_cons_succ, exec, runOps, dstOk, wantedV, AM.step, evalT, evalO, evalArgs, evalParts, getF, putF, afterRegion, assignV, boxOf, newBox, hasIdsP, keepF, ofVal, ofCell, plen, pesz, callV, builtinV, lenV, binV, unV, arith, shiftI, loadV, storeV, putV, indexAddrV, live, upd, pget, pset, psetA, pagg, retag, retagP, byteAV, freezeP, freezeV, joinTags, joinTag, tags, ids, scalar, cellsLen, eqV, convV, faV, fvV, shiftBy, shiftRo, apFr, hiI, hi5, hLl, hL, w1, hA, assignV])
  rintro fr H ⟨e1, e2, e3, e4, ob5, rfl, rfl, hw5⟩
  have hl5 := txB_len hsm 5
  have e12 : ((12 : UInt8).toNat : Int) = 12 := rfl
  have hb12 := fun H => bs1 H 12
  rw [e12] at hb12
  obtain ⟨ob6, hw6, hA6⟩ := app_b (H := [some (coO x), some nilB, some ob0, e1, e2, e3, e4, some ob5]) (o := 7) (m := [12]) (src := .ro 1 (.pb [12]) 0) rfl hw5 (.inl rfl) (by simp; omega)
  obtain ⟨ob7, hw7, hA7⟩ := cfix_ev (H := [some (coO x), some nilB, some ob0, e1, e2, e3, e4, some ob6]) (a := .sl 7 0 (b ++ txB x 5 ++ [12]).length 1) (b := b ++ txB x 5 ++ [12]) (x := x.cs) (n := 2) (N := 2) (Byt.whole rfl hw6) rfl (by simp; omega) (by omega) (by omega) hx.cs
  apply Tells.seq (fr' := [(3, .ptr 0 0 0 0), (7, .sl 8 0 ((b ++ txB x 5).length + 3) 0)]) (H' := [some (coO x), some nilB, some ob0, e1, e2, e3, e4, some ob6, some ob7])
  · have hg := hw5.g
    have hpp := hw5.p
    have hids := hw5.ids
    have hg6 := hw6.g
    have hpp6 := hw6.p
    have hids6 := hw6.ids
    have wc : IntKind.u64.wrap (x.cs : Int) = (x.cs : Int) := wrap_u64 (by omega) (by have := hx.cs; omega)
    rw [List.length_append (bs := [12])] at hA7
    generalize (b ++ txB x 5).length = n1 at *
    simp only [List.length_cons, List.length_nil, coO, Co.pay] at hA6 hA7
    apply Run.dy (by simp) keep14_10 (by simp)
    · (conv => lhs; simp (maxSteps := 2000000) -implicitDefEqProofs [-getElem?_pos, List.getElem?_cons_zero, List.getElem?_cons_succ, exec, runOps, dstOk, wantedV, AM.step, evalT, evalO, evalArgs, evalParts, getF, putF, afterRegion, assignV, boxOf, newBox, hasIdsP, keepF, ofVal, ofCell, plen, pesz, callV, builtinV, lenV, binV, unV, arith, shiftI, loadV, storeV, putV, indexAddrV, live, upd, pget, pset, psetA, pagg, retag, retagP, byteAV, freezeP, freezeV, joinTags, joinTag, tags, ids, scalar, cellsLen, eqV, convV, faV, fvV, shiftBy, shiftRo, runD, out1, markOf, freeO, quietO, pushes, isAssign, calledV, touched, mentioned, opVals, touchCall, mentionCall, idsAt, Op.operands, ids, idsL, lendArgs, lendV, lend1, lendL, coO, Co.pay, apFr, hb12, hA6, hA7, upd, wc, assignV, reach_none, hg, hpp, hids, hg6, hpp6, hids6, psub])
      rfl
    · kernel_rfl
    · rfl
  have l6 : (b ++ txB x 5 ++ [12] ++ leB 2 x.cs).length = (b ++ txB x 5).length + 3 := by simp [leB_len]; omega
  obtain ⟨ob8, hw8, hA8⟩ := cfix_ev (H := [some (coO x), some nilB, some ob0, e1, e2, e3, e4, some ob6, some ob7]) (a := .sl 8 0 (b ++ txB x 5 ++ [12] ++ leB 2 x.cs).length 0) (b := b ++ txB x 5 ++ [12] ++ leB 2 x.cs) (x := x.ln) (n := 4) (N := 4) (Byt.whole rfl hw7) rfl (by simp [leB_len]; omega) (by omega) (by omega) hx.ln
  have l7 : (b ++ txB x 5 ++ [12] ++ leB 2 x.cs ++ leB 4 x.ln).length = (b ++ txB x 5).length + 7 := by simp [leB_len]; omega
  obtain ⟨ob9, hw9, hA9⟩ := app_b (H := [some (coO x), some nilB, some ob0, e1, e2, e3, e4, some ob6, some ob7, some ob8]) (o := 9) (m := [UInt8.ofNat x.ty]) (src := .ro 1 (.pb [UInt8.ofNat x.ty]) 0) rfl hw8 (.inl rfl) (by rw [l7]; simp; omega)
  have etn : (UInt8.ofNat x.ty).toNat = x.ty := by simp; exact hx.ty
  have hbt := fun H => bs1 H (UInt8.ofNat x.ty)
  rw [etn] at hbt
  rw [l6] at hA8
  rw [l7] at hA9
  apply Tells.seq (fr' := [(3, .ptr 0 0 0 0), (7, .sl 9 0 ((b ++ txB x 5).length + 8) 1)]) (H' := [some (coO x), some nilB, some ob0, e1, e2, e3, e4, some ob6, some ob7, some ob9])
  · have hg := hw7.g
    have hpp := hw7.p
    have hids := hw7.ids
    have hg6 := hw8.g
    have hpp6 := hw8.p
    have hids6 := hw8.ids
    have wc : IntKind.u64.wrap (x.ln : Int) = (x.ln : Int) := wrap_u64 (by omega) (by have := hx.ln; omega)
    have lp7 : (b ++ txB x 5 ++ [12] ++ leB 2 x.cs).length = (b ++ txB x 5).length + 3 := l6
    generalize b ++ txB x 5 ++ [12] ++ leB 2 x.cs ++ leB 4 x.ln = B7 at *
    generalize b ++ txB x 5 ++ [12] ++ leB 2 x.cs = B6 at *
    generalize (b ++ txB x 5).length = n1 at *
    generalize UInt8.ofNat x.ty = ty at *
    simp only [List.length_cons, List.length_nil, coO, Co.pay, List.cons_append, List.nil_append] at hA8 hA9
    apply Run.dy (by simp) keep14_11 (by simp)
    · (conv => lhs; simp (maxSteps := 2000000) -implicitDefEqProofs [-getElem?_pos, List.getElem?_cons_zero, List.getElem?_cons_succ, exec, runOps, dstOk, wantedV, AM.step, evalT, evalO, evalArgs, evalParts, getF, putF, afterRegion, assignV, boxOf, newBox, hasIdsP, keepF, ofVal, ofCell, plen, pesz, callV, builtinV, lenV, binV, unV, arith, shiftI, loadV, storeV, putV, indexAddrV, live, upd, pget, pset, psetA, pagg, retag, retagP, byteAV, freezeP, freezeV, joinTags, joinTag, tags, ids, scalar, cellsLen, eqV, convV, faV, fvV, shiftBy, shiftRo, runD, out1, markOf, freeO, quietO, pushes, isAssign, calledV, touched, mentioned, opVals, touchCall, mentionCall, idsAt, Op.operands, ids, idsL, lendArgs, lendV, lend1, lendL, coO, Co.pay, hbt, hA8, hA9, upd, wc, assignV, reach_none, hg, hpp, hids, hg6, hpp6, hids6, psub, lp7, l7])
      rfl
    · kernel_rfl
    · rfl
  have l8 : (b ++ txB x 5 ++ [12] ++ leB 2 x.cs ++ leB 4 x.ln ++ [UInt8.ofNat x.ty]).length = (b ++ txB x 5).length + 8 := by simp [leB_len]; omega
  obtain ⟨ob10, hw10, hA10⟩ := cfix_ev (H := [some (coO x), some nilB, some ob0, e1, e2, e3, e4, some ob6, some ob7, some ob9]) (a := .sl 9 0 (b ++ txB x 5 ++ [12] ++ leB 2 x.cs ++ leB 4 x.ln ++ [UInt8.ofNat x.ty]).length 1) (b := b ++ txB x 5 ++ [12] ++ leB 2 x.cs ++ leB 4 x.ln ++ [UInt8.ofNat x.ty]) (x := x.fl) (n := 2) (N := 2) (Byt.whole rfl hw9) rfl (by simp [leB_len]; omega) (by omega) (by omega) hx.fl
  have l9 : (b ++ txB x 5 ++ [12] ++ leB 2 x.cs ++ leB 4 x.ln ++ [UInt8.ofNat x.ty] ++ leB 2 x.fl).length = (b ++ txB x 5).length + 10 := by simp [leB_len]; omega
  obtain ⟨ob11, hw11, hA11⟩ := app_b (H := [some (coO x), some nilB, some ob0, e1, e2, e3, e4, some ob6, some ob7, some ob9, some ob10]) (o := 10) (m := [UInt8.ofNat x.dc, 0, 0]) (src := .ro 1 (.pb [UInt8.ofNat x.dc, 0, 0]) 0) rfl hw10 (.inl rfl) (by rw [l9]; simp; omega)
  have edn : (UInt8.ofNat x.dc).toNat = x.dc := by simp; exact hx.dc
  have hbd := fun H => bs3 H (UInt8.ofNat x.dc)
  rw [edn] at hbd
  rw [l8] at hA10
  rw [l9] at hA11
  have hfin : b ++ txB x 5 ++ [12] ++ leB 2 x.cs ++ leB 4 x.ln ++ [UInt8.ofNat x.ty] ++ leB 2 x.fl ++ [UInt8.ofNat x.dc, 0, 0] = b ++ coB' x := by simp [coB', tlB]
  have hfl : (b ++ coB' x).length = (b ++ txB x 5).length + 13 := by rw [← hfin]; simp [leB_len]; omega
  rw [hfin] at hw11
  rw [hfl]
  refine Tells.seq (fr' := [(4, .sl 10 0 ((b ++ txB x 5).length + 13) 1), (5, .int .i64 0)]) (H' := [some (coO x), some nilB, some ob0, e1, e2, e3, e4, some ob6, some ob7, some ob9, some ob11]) ?_ (Tells.of (o := ⟨.ret, [(4, .sl 10 0 ((b ++ txB x 5).length + 13) 1), (5, .int .i64 0)], [some (coO x), some nilB, some ob0, e1, e2, e3, e4, some ob6, some ob7, some ob9, some ob11]⟩) ⟨0, rfl⟩ ⟨rfl, 10, 1, ob11, rfl, rfl, rfl, hw11⟩)
  have hg := hw9.g
  have hpp := hw9.p
  have hids := hw9.ids
  have hg6 := hw10.g
  have hpp6 := hw10.p
  have hids6 := hw10.ids
  have wc : IntKind.u64.wrap (x.fl : Int) = (x.fl : Int) := wrap_u64 (by omega) (by have := hx.fl; omega)
  have lp8 := l8
  generalize b ++ txB x 5 ++ [12] ++ leB 2 x.cs ++ leB 4 x.ln ++ [UInt8.ofNat x.ty] ++ leB 2 x.fl = B9 at *
  generalize b ++ txB x 5 ++ [12] ++ leB 2 x.cs ++ leB 4 x.ln ++ [UInt8.ofNat x.ty] = B8 at *
  generalize (b ++ txB x 5).length = n1 at *
  generalize UInt8.ofNat x.dc = dc at *
  simp only [List.length_cons, List.length_nil, coO, Co.pay, List.cons_append, List.nil_append] at hA10 hA11
  apply Run.dy (by simp) keep14_12 (by simp)
  · (conv => lhs; simp (maxSteps := 2000000) -implicitDefEqProofs [-getElem?_pos, List.getElem?_cons_zero, List.getElem?_cons_succ, exec, runOps, dstOk, wantedV, AM.step, evalT, evalO, evalArgs, evalParts, getF, putF, afterRegion, assignV, boxOf, newBox, hasIdsP, keepF, ofVal, ofCell, plen, pesz, callV, builtinV, lenV, binV, unV, arith, shiftI, loadV, storeV, putV, indexAddrV, live, upd, pget, pset, psetA, pagg, retag, retagP, byteAV, freezeP, freezeV, joinTags, joinTag, tags, ids, scalar, cellsLen, eqV, convV, faV, fvV, shiftBy, shiftRo, runD, out1, markOf, freeO, quietO, pushes, isAssign, calledV, touched, mentioned, opVals, touchCall, mentionCall, idsAt, Op.operands, ids, idsL, lendArgs, lendV, lend1, lendL, coO, Co.pay, hbd, hA10, hA11, upd, wc, assignV, reach_none, hg, hpp, hids, hg6, hpp6, hids6, psub, lp8, l9])
    rfl
  · kernel_rfl
  · rfl

end

theorem append_ev {H : AM.Heap} {a : AV} {b : List UInt8} {x : Co} (hx : CoOk x) (h : Byt H a b) (hb : b.length ≤ 100000) :
    ∃ ob, Rw (.pb (apR b x).1) 0 ob ∧ evT X 14 [a, .agg x.pay] H = some (.tup [.sl H.length 0 (apR b x).1.length 0, .int .i64 (apR b x).2], H ++ [some ob]) := by
  obtain ⟨cb, pb, xl, hpb, hcb, hx'⟩ := args_byt (C := X) (f := 14) (i := 0) rfl h (args_co (f := 14) (i := 1) (x := x) (args_nil 2))
  obtain ⟨code, hcode, hr⟩ := append_code cb b x hx hcb hb
  obtain ⟨ob, q1, q2⟩ := Ev1.newB (H := H) (n := (apR b x).1.length) (l := (apR b x).1) (rest := [.int .i64 (apR b x).2]) (evT_below X) Try.func14 hcode hx' (by simp [Co.pay, idsL, ids, hpb.ids]) (by simp [gtag]) rfl rfl rfl (by
    obtain ⟨o, ⟨he, o1, g, ob, q1, q2, q3, q4⟩, hrun⟩ := hr
    exact ⟨o, ⟨he, o1, g, ob, by show some [getF o.fr 4, getF o.fr 5] = _; rw [q1, q2], q3, q4⟩, by rw [par14, coB hpb]; exact hrun⟩)
  exact ⟨ob, q1, evT_eq q2⟩

end Go.Proofs.Ytkgchoknkakcgaa
