/- Walks: the law ColumnBack. -/
import Derived.Test.YtkgchoknkakcgaaPB
import Derived.Test.YtkgchoknkakcgaaPC
import Derived.Test.YtkgchoknkakcgaaPK
namespace Go.Proofs.Ytkgchoknkakcgaa
open Go.AM
set_option linter.unusedSimpArgs false
set_option linter.unusedVariables false

theorem apR_nil (x : Co) : apR [] x = if chk x = 0 then (coB' x, 0) else ([], chk x) := by unfold apR; rw [List.nil_append]

section
variable (x : Co) (n cut : Int) (more : Nat)

def bkFr : AM.Frame := [(1, .int .i64 n), (2, .int .i64 cut), (3, .int .u8 (more : Nat)), (4, .ptr 0 0 0 0)]

set_option maxRecDepth 100000 in
theorem back_code (hx : CoOk x) (hm : more < 256) : ∃ code, Try.f4.body = some code ∧
    Tells (Rets fun fr H => getF fr 8 = .bool true) X (evT X) 4 0 code [(0, .agg x.pay), (1, .int .i64 n), (2, .int .i64 cut), (3, .int .u8 (more : Nat))] [] := by
  refine ⟨_, rfl, ?_⟩
  have hL := fun H => livesR_ev H
  apply Tells.seq (fr' := bkFr n cut more) (H' := [some (coO x)])
  · (refine ⟨0, ?_⟩; simp (maxSteps := 2000000) -implicitDefEqProofs [-getElem?_pos, List.getElem?_cons_zero, List.getElem?_cons_succ, exec, runOps, dstOk, wantedV, AM.step, evalT, evalO, evalArgs, evalParts, getF, putF, afterRegion, assignV, boxOf, newBox, hasIdsP, keepF, ofVal, ofCell, plen, pesz, callV, builtinV, lenV, binV, unV, arith, shiftI, loadV, storeV, putV, indexAddrV, live, upd, pget, pset, psetA, pagg, retag, retagP, byteAV, freezeP, freezeV, joinTags, joinTag, tags, ids, scalar, cellsLen, eqV, convV, faV, fvV, shiftBy, shiftRo, coO, Co.pay, bkFr])
  apply Tells.seq (fr' := bkFr n cut more ++ [(21, .bool false)]) (H' := [some (coO x)])
  · (refine ⟨0, ?_⟩; simp (maxSteps := 2000000) -implicitDefEqProofs [-getElem?_pos, List.getElem?_cons_zero, List.getElem?_cons_succ, exec, runOps, dstOk, wantedV, AM.step, evalT, evalO, evalArgs, evalParts, getF, putF, afterRegion, assignV, boxOf, newBox, hasIdsP, keepF, ofVal, ofCell, plen, pesz, callV, builtinV, lenV, binV, unV, arith, shiftI, loadV, storeV, putV, indexAddrV, live, upd, pget, pset, psetA, pagg, retag, retagP, byteAV, freezeP, freezeV, joinTags, joinTag, tags, ids, scalar, cellsLen, eqV, convV, faV, fvV, shiftBy, shiftRo, hL, unV, bkFr])
  have hsm := small_ev (H := [some (coO x)]) (x := x)
  cases hs : smB x with
  | false =>
    rw [hs] at hsm
    simp only [coO, Co.pay] at hsm
    refine Tells.of (o := ⟨.ret, [(8, .bool true)], [some (coO x)]⟩) ⟨0, ?_⟩ ⟨rfl, rfl⟩
    simp (maxSteps := 2000000) -implicitDefEqProofs [-getElem?_pos, List.getElem?_cons_zero, List.getElem?_cons_succ, exec, runOps, dstOk, wantedV, AM.step, evalT, evalO, evalArgs, evalParts, getF, putF, afterRegion, assignV, boxOf, newBox, hasIdsP, keepF, ofVal, ofCell, plen, pesz, callV, builtinV, lenV, binV, unV, arith, shiftI, loadV, storeV, putV, indexAddrV, live, upd, pget, pset, psetA, pagg, retag, retagP, byteAV, freezeP, freezeV, joinTags, joinTag, tags, ids, scalar, cellsLen, eqV, convV, faV, fvV, shiftBy, shiftRo, coO, Co.pay, mkCo, hsm, unV, bkFr]
  | true =>
  rw [hs] at hsm
  apply Tells.seq (fr' := bkFr n cut more ++ [(24, .bool false)]) (H' := [some (coO x)])
  · simp only [coO, Co.pay] at hsm
    (refine ⟨0, ?_⟩; simp (maxSteps := 2000000) -implicitDefEqProofs [-getElem?_pos, List.getElem?_cons_zero, List.getElem?_cons_succ, exec, runOps, dstOk, wantedV, AM.step, evalT, evalO, evalArgs, evalParts, getF, putF, afterRegion, assignV, boxOf, newBox, hasIdsP, keepF, ofVal, ofCell, plen, pesz, callV, builtinV, lenV, binV, unV, arith, shiftI, loadV, storeV, putV, indexAddrV, live, upd, pget, pset, psetA, pagg, retag, retagP, byteAV, freezeP, freezeV, joinTags, joinTag, tags, ids, scalar, cellsLen, eqV, convV, faV, fvV, shiftBy, shiftRo, coO, Co.pay, mkCo, hsm, unV, bkFr])
  clear hsm
  obtain ⟨ob1, hw1, hA1⟩ := count_ev (n := n) (H := [some (coO x)]) (a := .ro 0 .pn 0) Byt.nil (by simp)
  apply Tells.seq (fr' := bkFr n cut more ++ [(9, .sl 1 0 (acR [] n).1.length 0), (10, .int .i64 (acR [] n).2)]) (H' := [some (coO x), some ob1])
  · simp only [coO, Co.pay] at hA1
    generalize acR [] n = r at *
    (refine ⟨0, ?_⟩; simp (maxSteps := 2000000) -implicitDefEqProofs [-getElem?_pos, List.getElem?_cons_zero, List.getElem?_cons_succ, exec, runOps, dstOk, wantedV, AM.step, evalT, evalO, evalArgs, evalParts, getF, putF, afterRegion, assignV, boxOf, newBox, hasIdsP, keepF, ofVal, ofCell, plen, pesz, callV, builtinV, lenV, binV, unV, arith, shiftI, loadV, storeV, putV, indexAddrV, live, upd, pget, pset, psetA, pagg, retag, retagP, byteAV, freezeP, freezeV, joinTags, joinTag, tags, ids, scalar, cellsLen, eqV, convV, faV, fvV, shiftBy, shiftRo, coO, Co.pay, hA1, assignV, bkFr])
  have hRC := readCount_ev (H := [some (coO x), some ob1]) (Byt.whole (o := 1) rfl hw1) (by unfold acR; split <;> simp [aI_len]; have := szI_le n.toNat; omega)
  have hcb : (acR [] n).2 = 0 → rcR (acR [] n).1 = (n, 0) := by
    unfold acR
    by_cases h : 1 ≤ n ∧ n ≤ 4096
    · rw [if_pos h]; intro _; exact count_back h.1 h.2
    · rw [if_neg h]; intro h; cases h
  have hsk : ∀ C : Prop, C → C := fun _ h => h
  apply Tells.andThen (P := fun fr H => (fr = bkFr n cut more ++ [(9, .sl 1 0 (acR [] n).1.length 0), (31, .bool false)] ∨ fr = [(2, .int .i64 cut), (3, .int .u8 (more : Nat)), (4, .ptr 0 0 0 0), (43, .bool false)]) ∧ H = [some (coO x), some ob1])
  · by_cases h0 : (acR [] n).2 = 0
    · have hc := hcb h0
      rw [hc] at hRC
      refine Tells.of (o := ⟨.normal, [(2, .int .i64 cut), (3, .int .u8 (more : Nat)), (4, .ptr 0 0 0 0), (43, .bool false)], [some (coO x), some ob1]⟩) ⟨0, ?_⟩ ⟨rfl, .inr rfl, rfl⟩
      simp only [coO, Co.pay] at hRC
      clear hcb hc hw1 hA1
      generalize acR [] n = r at *
      simp (maxSteps := 2000000) -implicitDefEqProofs [-getElem?_pos, List.getElem?_cons_zero, List.getElem?_cons_succ, exec, runOps, dstOk, wantedV, AM.step, evalT, evalO, evalArgs, evalParts, getF, putF, afterRegion, assignV, boxOf, newBox, hasIdsP, keepF, ofVal, ofCell, plen, pesz, callV, builtinV, lenV, binV, unV, arith, shiftI, loadV, storeV, putV, indexAddrV, live, upd, pget, pset, psetA, pagg, retag, retagP, byteAV, freezeP, freezeV, joinTags, joinTag, tags, ids, scalar, cellsLen, eqV, convV, faV, fvV, shiftBy, shiftRo, coO, Co.pay, hRC, bkFr, h0]
    · have h0b : ((acR [] n).2 == 0) = false := by simpa using h0
      refine Tells.of (o := ⟨.normal, bkFr n cut more ++ [(9, .sl 1 0 (acR [] n).1.length 0), (31, .bool false)], [some (coO x), some ob1]⟩) ⟨0, ?_⟩ ⟨rfl, .inl rfl, rfl⟩
      clear hcb hRC hw1 hA1
      generalize acR [] n = r at *
      simp (maxSteps := 2000000) -implicitDefEqProofs [-getElem?_pos, List.getElem?_cons_zero, List.getElem?_cons_succ, exec, runOps, dstOk, wantedV, AM.step, evalT, evalO, evalArgs, evalParts, getF, putF, afterRegion, assignV, boxOf, newBox, hasIdsP, keepF, ofVal, ofCell, plen, pesz, callV, builtinV, lenV, binV, unV, arith, shiftI, loadV, storeV, putV, indexAddrV, live, upd, pget, pset, psetA, pagg, retag, retagP, byteAV, freezeP, freezeV, joinTags, joinTag, tags, ids, scalar, cellsLen, eqV, convV, faV, fvV, shiftBy, shiftRo, coO, Co.pay, bkFr, h0, h0b]
  rintro fr H ⟨hfr, rfl⟩
  obtain ⟨ob2, hw2, hA2⟩ := append_ev (H := [some (coO x), some ob1]) (a := .ro 0 .pn 0) hx Byt.nil (by simp)
  clear hRC hcb hA1
  apply Tells.seq (fr' := [(2, .int .i64 cut), (3, .int .u8 (more : Nat)), (4, .ptr 0 0 0 0), (10, .int .i64 (apR [] x).2), (13, .sl 2 0 (apR [] x).1.length 0)]) (H' := [some (coO x), some ob1, some ob2])
  · simp only [coO, Co.pay] at hA2
    generalize apR [] x = r at *
    generalize (acR [] n).1.length = z at *
    rcases hfr with rfl | rfl
    · (refine ⟨0, ?_⟩; simp (maxSteps := 2000000) -implicitDefEqProofs [-getElem?_pos, List.getElem?_cons_zero, List.getElem?_cons_succ, exec, runOps, dstOk, wantedV, AM.step, evalT, evalO, evalArgs, evalParts, getF, putF, afterRegion, assignV, boxOf, newBox, hasIdsP, keepF, ofVal, ofCell, plen, pesz, callV, builtinV, lenV, binV, unV, arith, shiftI, loadV, storeV, putV, indexAddrV, live, upd, pget, pset, psetA, pagg, retag, retagP, byteAV, freezeP, freezeV, joinTags, joinTag, tags, ids, scalar, cellsLen, eqV, convV, faV, fvV, shiftBy, shiftRo, coO, Co.pay, mkCo, hA2, assignV, bkFr])
    · (refine ⟨0, ?_⟩; simp (maxSteps := 2000000) -implicitDefEqProofs [-getElem?_pos, List.getElem?_cons_zero, List.getElem?_cons_succ, exec, runOps, dstOk, wantedV, AM.step, evalT, evalO, evalArgs, evalParts, getF, putF, afterRegion, assignV, boxOf, newBox, hasIdsP, keepF, ofVal, ofCell, plen, pesz, callV, builtinV, lenV, binV, unV, arith, shiftI, loadV, storeV, putV, indexAddrV, live, upd, pget, pset, psetA, pagg, retag, retagP, byteAV, freezeP, freezeV, joinTags, joinTag, tags, ids, scalar, cellsLen, eqV, convV, faV, fvV, shiftBy, shiftRo, coO, Co.pay, mkCo, hA2, assignV, bkFr])
  clear hA2 hfr hw1
  rw [apR_nil] at hw2 ⊢
  by_cases hck : chk x = 0
  case neg =>
    rw [if_neg hck]
    have hckb : (chk x != 0) = true := by simpa using hck
    have hC := check_ev (H := [some (coO x), some ob1, some ob2]) (x := x) hx.ty
    have hg := hw2.g
    refine Tells.of (o := ⟨.ret, [(8, .bool true)], [some (coO x), some ob1, some ob2]⟩) ⟨0, ?_⟩ ⟨rfl, rfl⟩
    simp only [coO, Co.pay] at hC
    simp (maxSteps := 2000000) -implicitDefEqProofs [-getElem?_pos, List.getElem?_cons_zero, List.getElem?_cons_succ, exec, runOps, dstOk, wantedV, AM.step, evalT, evalO, evalArgs, evalParts, getF, putF, afterRegion, assignV, boxOf, newBox, hasIdsP, keepF, ofVal, ofCell, plen, pesz, callV, builtinV, lenV, binV, unV, arith, shiftI, loadV, storeV, putV, indexAddrV, live, upd, pget, pset, psetA, pagg, retag, retagP, byteAV, freezeP, freezeV, joinTags, joinTag, tags, ids, scalar, cellsLen, eqV, convV, faV, fvV, shiftBy, shiftRo, coO, Co.pay, mkCo, hC, hckb, hck, hg]
  rw [if_pos hck] at hw2 ⊢
  have hback := co_back hx hck
  have hlen : (coB' x).length ≤ 5000 ∧ 0 < (coB' x).length := by
    have := txB_len (chk_small hck) 5
    unfold coB' tlB
    simp [leB_len]; omega
  have hpk := pk_lt (x := cut) hlen.2
  have hshort := co_short hx hck hpk
  have hlong := co_long hx hck (UInt8.ofNat more)
  have hP := fun H => pick_ev (H := H) (x := cut) (n := (coB' x).length) hlen.2 (by omega)
  generalize hB : coB' x = B at *
  simp only at hw2 ⊢
  apply Tells.seq (fr' := [(2, .int .i64 cut), (3, .int .u8 (more : Nat)), (4, .ptr 0 0 0 0), (10, .int .i64 0), (13, .sl 2 0 B.length 0), (50, .bool false)]) (H' := [some (coO x), some ob1, some ob2])
  · generalize B.length = L at *
    (refine ⟨0, ?_⟩; simp (maxSteps := 2000000) -implicitDefEqProofs [-getElem?_pos, List.getElem?_cons_zero, List.getElem?_cons_succ, exec, runOps, dstOk, wantedV, AM.step, evalT, evalO, evalArgs, evalParts, getF, putF, afterRegion, assignV, boxOf, newBox, hasIdsP, keepF, ofVal, ofCell, plen, pesz, callV, builtinV, lenV, binV, unV, arith, shiftI, loadV, storeV, putV, indexAddrV, live, upd, pget, pset, psetA, pagg, retag, retagP, byteAV, freezeP, freezeV, joinTags, joinTag, tags, ids, scalar, cellsLen, eqV, convV, faV, fvV, shiftBy, shiftRo])
  have hR1 := read_ev (H := [some (coO x), some ob1, some ob2]) (Byt.whole (o := 2) rfl hw2) (by omega)
  rw [hback] at hR1
  apply Tells.seq (fr' := [(2, .int .i64 cut), (3, .int .u8 (more : Nat)), (4, .ptr 0 0 0 0), (13, .sl 2 0 B.length 0), (14, .ptr 3 0 0 0), (15, .int .i64 0)]) (H' := [some (coO x), some ob1, some ob2, some (coO x)])
  · simp only [coO, Co.pay] at hR1
    generalize B.length = L at *
    (refine ⟨0, ?_⟩; simp (maxSteps := 2000000) -implicitDefEqProofs [-getElem?_pos, List.getElem?_cons_zero, List.getElem?_cons_succ, exec, runOps, dstOk, wantedV, AM.step, evalT, evalO, evalArgs, evalParts, getF, putF, afterRegion, assignV, boxOf, newBox, hasIdsP, keepF, ofVal, ofCell, plen, pesz, callV, builtinV, lenV, binV, unV, arith, shiftI, loadV, storeV, putV, indexAddrV, live, upd, pget, pset, psetA, pagg, retag, retagP, byteAV, freezeP, freezeV, joinTags, joinTag, tags, ids, scalar, cellsLen, eqV, convV, faV, fvV, shiftBy, shiftRo, coO, Co.pay, hR1, flatCells, splice, scalars, scalar, mkCo])
  clear hR1
  have hg2 := hw2.g
  have hp2 := hw2.p
  have hi2 := hw2.ids
  have hR2 := read_ev (H := [some (coO x), some ob1, some ob2, some (coO x)]) (a := .sl 2 0 (pk cut B.length) 0) (b := B.take (pk cut B.length)) (Byt.sl (o := 2) rfl hw2 (by simp) (by omega)) (by rw [List.length_take]; omega)
  rw [hshort] at hR2
  have hS2 : ∀ E, sliceV X (some (coO x) :: some ob1 :: some ob2 :: E) 22 (.sl 2 0 B.length 0) none (some (.int .i64 (pk cut B.length : Nat))) = some (.sl 2 0 (pk cut B.length) 0) := by
    intro E
    have h2 : pk cut B.length ≤ B.length := by omega
    have h3 : ((pk cut B.length : Nat) : Int) ≤ (B.length : Int) := by omega
    simp [sliceV, bound, live, hg2, hp2, plen, pesz, h2, h3]
  generalize (rdC (B.take (pk cut B.length))).1 = y at *
  apply Tells.seq (fr' := [(3, .int .u8 (more : Nat)), (4, .ptr 0 0 0 0), (13, .sl 2 0 B.length 0), (14, .ptr 3 0 0 0), (15, .int .i64 0), (17, .int .i64 4)]) (H' := [some (coO x), some ob1, some ob2, some (coO x), some (coO y)])
  · simp only [coO, Co.pay] at hR2 hS2
    have hlive : ob2.g = 0 := hg2
    generalize pk cut B.length = k at *
    generalize B.length = L at *
    (refine ⟨0, ?_⟩; simp (maxSteps := 2000000) -implicitDefEqProofs [-getElem?_pos, List.getElem?_cons_zero, List.getElem?_cons_succ, exec, runOps, dstOk, wantedV, AM.step, evalT, evalO, evalArgs, evalParts, getF, putF, afterRegion, assignV, boxOf, newBox, hasIdsP, keepF, ofVal, ofCell, plen, pesz, callV, builtinV, lenV, binV, unV, arith, shiftI, loadV, storeV, putV, indexAddrV, live, upd, pget, pset, psetA, pagg, retag, retagP, byteAV, freezeP, freezeV, joinTags, joinTag, tags, ids, scalar, cellsLen, eqV, convV, faV, fvV, shiftBy, shiftRo, coO, Co.pay, hP, hS2, hR2, hlive, flatCells, splice, scalars, scalar, mkCo])
  clear hR2 hS2 hP
  have hA := app_lit (H := [some (coO x), some ob1, some ob2, some (coO x), some (coO y)]) (m := B) (src := .sl 2 0 B.length 0) (.inl (by simp [srcV, live, hg2, hi2, hp2, psub, payB, ptag])) (by omega)
  have hw0 : Rw (.pb B) 0 ⟨.pb B, 0, .none, 1, true, false, 0⟩ := ⟨rfl, rfl, rfl, rfl, rfl⟩
  generalize (⟨.pb B, 0, .none, 1, true, false, 0⟩ : AM.Obj) = ob0 at *
  obtain ⟨ob', hw', hA1⟩ := app_b (H := [some (coO x), some ob1, some ob2, some (coO x), some (coO y), some ob0]) (o := 5) (m := [UInt8.ofNat more]) (src := .ro 1 (.pb [UInt8.ofNat more]) 0) rfl hw0 (.inl rfl) (by simp; omega)
  have hb0 := fun H => bs0 H
  have hbm := fun H => bs1 H (UInt8.ofNat more)
  have hmm : (UInt8.ofNat more).toNat = more := by simp; exact hm
  rw [hmm] at hbm
  have hR3 := read_ev (H := [some (coO x), some ob1, some ob2, some (coO x), some (coO y), some ob']) (Byt.whole (o := 5) rfl hw') (by simp; omega)
  rw [hlong] at hR3
  generalize (rdC (B ++ [UInt8.ofNat more])).1 = z at *
  apply Tells.seq (fr' := [(4, .ptr 0 0 0 0), (14, .ptr 3 0 0 0), (15, .int .i64 0), (17, .int .i64 4), (19, .int .i64 5)]) (H' := [some (coO x), some ob1, some ob2, some (coO x), some (coO y), some ob', some (coO z)])
  · simp only [coO, Co.pay, List.length_append, List.length_cons, List.length_nil, Nat.zero_add] at hR3 hA hA1
    clear hback hshort hlong hw' hw2 hp2
    generalize UInt8.ofNat more = mb at *
    generalize B.length = L at *
    (refine ⟨0, ?_⟩; simp (maxSteps := 2000000) -implicitDefEqProofs [-getElem?_pos, List.getElem?_cons_zero, List.getElem?_cons_succ, exec, runOps, dstOk, wantedV, AM.step, evalT, evalO, evalArgs, evalParts, getF, putF, afterRegion, assignV, boxOf, newBox, hasIdsP, keepF, ofVal, ofCell, plen, pesz, callV, builtinV, lenV, binV, unV, arith, shiftI, loadV, storeV, putV, indexAddrV, live, upd, pget, pset, psetA, pagg, retag, retagP, byteAV, freezeP, freezeV, joinTags, joinTag, tags, ids, scalar, cellsLen, eqV, convV, faV, fvV, shiftBy, shiftRo, coO, Co.pay, hb0, hA, hbm, hA1, upd, hR3, flatCells, splice, scalars, scalar, mkCo])
  have hEq := fun H xo yo => eqCoR x H xo yo
  simp only [Co.pay] at hEq
  refine Tells.of (o := ⟨.ret, [(8, .bool true)], [some (coO x), some ob1, some ob2, some (coO x), some (coO y), some ob', some (coO z)]⟩) ⟨0, ?_⟩ ⟨rfl, rfl⟩
  simp (maxSteps := 2000000) -implicitDefEqProofs [-getElem?_pos, List.getElem?_cons_zero, List.getElem?_cons_succ, exec, runOps, dstOk, wantedV, AM.step, evalT, evalO, evalArgs, evalParts, getF, putF, afterRegion, assignV, boxOf, newBox, hasIdsP, keepF, ofVal, ofCell, plen, pesz, callV, builtinV, lenV, binV, unV, arith, shiftI, loadV, storeV, putV, indexAddrV, live, upd, pget, pset, psetA, pagg, retag, retagP, byteAV, freezeP, freezeV, joinTags, joinTag, tags, ids, scalar, cellsLen, eqV, convV, faV, fvV, shiftBy, shiftRo, -eqV, coO, Co.pay, mkCo, hEq]

end

end Go.Proofs.Ytkgchoknkakcgaa
