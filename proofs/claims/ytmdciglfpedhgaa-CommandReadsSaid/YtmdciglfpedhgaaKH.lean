/- Walks: the law CommandBack. -/
import Derived.Test.YtmdciglfpedhgaaKG
namespace Go.Proofs.Ytmdciglfpedhgaa
open Go.AM
set_option linter.unusedSimpArgs false
set_option linter.unusedVariables false

theorem readR_err {b : List UInt8} (h : (readR b).2 ≠ 0) : (readR b).1 = { k := 0 } := by
  unfold readR at h ⊢
  simp only at h ⊢
  split
  · rfl
  · split
    · rfl
    · split
      · rfl
      · rename_i h1 h2 h3
        rw [if_neg h1, if_neg h2, if_neg h3] at h
        exact absurd rfl h

theorem appR_e (b : List UInt8) (x : Cm) : (appR b x).2 = chkR x := by
  unfold appR
  split
  · rename_i h; rw [h]
  · rfl

theorem encR_len (x : Cm) : (encR x).length ≤ x.txt.length + x.dat.length + 20 := by
  unfold encR encH
  split <;> simp [leB_len] <;> omega

section
variable (c cc : Nat) (b : List UInt8) (x : Cm)

set_option maxRecDepth 100000 in
theorem back_code (hc : c = 0 → b = []) (hcc : cc = 0 → x.dat = []) (hx : CmOk x) : ∃ code, Try.f3.body = some code ∧
    Tells (Rets fun fr H => getF fr 4 = .bool true) X (evT X) 3 0 code [(0, .agg (x.pay (.ro cc (.pb x.dat) 1))), (1, .ro c (.pb b) 2)] [] := by
  refine ⟨_, rfl, ?_⟩
  have hL := fun H => lives_ev H
  apply Tells.seq (fr' := [(1, .ro c (.pb b) 2), (2, .ptr 0 0 0 0)]) (H' := [some (cmO x (.ro cc (.pb x.dat) 1))])
  · (refine ⟨0, ?_⟩; simp (maxSteps := 2000000) -implicitDefEqProofs [-getElem?_pos, List.getElem?_cons_zero, List.getElem?_cons_succ, exec, runOps, dstOk, wantedV, AM.step, evalT, evalO, evalArgs, evalParts, getF, putF, afterRegion, assignV, boxOf, newBox, hasIdsP, keepF, ofVal, ofCell, plen, pesz, callV, builtinV, lenV, binV, unV, arith, shiftI, loadV, storeV, putV, indexAddrV, live, upd, pget, pset, psetA, pagg, retag, retagP, byteAV, freezeP, freezeV, joinTags, joinTag, tags, ids, scalar, cellsLen, eqV, convV, faV, fvV, shiftBy, shiftRo, cmO, Cm.pay])
  have h2 : [some (cmO x (.ro cc (.pb x.dat) 1))][0]? = some (some (cmO x (.ro cc (.pb x.dat) 1))) := rfl
  have hX0 : ∀ H, CmA H (.agg (x.pay (.ro cc (.pb x.dat) 1))) x := fun H => CmA.ro (.inl rfl) hcc
  generalize [some (cmO x (.ro cc (.pb x.dat) 1))] = H0 at *
  apply Tells.seq (fr' := [(1, .ro c (.pb b) 2), (2, .ptr 0 0 0 0), (14, .bool false)]) (H' := H0)
  · (refine ⟨0, ?_⟩; simp (maxSteps := 2000000) -implicitDefEqProofs [-getElem?_pos, List.getElem?_cons_zero, List.getElem?_cons_succ, exec, runOps, dstOk, wantedV, AM.step, evalT, evalO, evalArgs, evalParts, getF, putF, afterRegion, assignV, boxOf, newBox, hasIdsP, keepF, ofVal, ofCell, plen, pesz, callV, builtinV, lenV, binV, unV, arith, shiftI, loadV, storeV, putV, indexAddrV, live, upd, pget, pset, psetA, pagg, retag, retagP, byteAV, freezeP, freezeV, joinTags, joinTag, tags, ids, scalar, cellsLen, eqV, convV, faV, fvV, shiftBy, shiftRo, hL])
  by_cases hb : (3000 : Int) < (b.length : Int)
  · refine Tells.of (o := ⟨.ret, [(4, .bool true)], H0⟩) ⟨0, ?_⟩ ⟨rfl, rfl⟩
    simp (maxSteps := 2000000) -implicitDefEqProofs [-getElem?_pos, List.getElem?_cons_zero, List.getElem?_cons_succ, exec, runOps, dstOk, wantedV, AM.step, evalT, evalO, evalArgs, evalParts, getF, putF, afterRegion, assignV, boxOf, newBox, hasIdsP, keepF, ofVal, ofCell, plen, pesz, callV, builtinV, lenV, binV, unV, arith, shiftI, loadV, storeV, putV, indexAddrV, live, upd, pget, pset, psetA, pagg, retag, retagP, byteAV, freezeP, freezeV, joinTags, joinTag, tags, ids, scalar, cellsLen, eqV, convV, faV, fvV, shiftBy, shiftRo, hb]
  have hsm := small_ev (hX0 H0)
  by_cases hs : x.txt.length ≤ 3000 ∧ x.dat.length ≤ 3000
  case neg =>
    rw [decide_eq_false hs] at hsm
    simp only [Cm.pay] at hsm
    refine Tells.of (o := ⟨.ret, [(4, .bool true)], H0⟩) ⟨0, ?_⟩ ⟨rfl, rfl⟩
    simp (maxSteps := 2000000) -implicitDefEqProofs [-getElem?_pos, List.getElem?_cons_zero, List.getElem?_cons_succ, exec, runOps, dstOk, wantedV, AM.step, evalT, evalO, evalArgs, evalParts, getF, putF, afterRegion, assignV, boxOf, newBox, hasIdsP, keepF, ofVal, ofCell, plen, pesz, callV, builtinV, lenV, binV, unV, arith, shiftI, loadV, storeV, putV, indexAddrV, live, upd, pget, pset, psetA, pagg, retag, retagP, byteAV, freezeP, freezeV, joinTags, joinTag, tags, ids, scalar, cellsLen, eqV, convV, faV, fvV, shiftBy, shiftRo, hb, h2, cmO, Cm.pay, mk26, hsm]
  rw [decide_eq_true hs] at hsm
  obtain ⟨ht, hd⟩ := hs
  have hbl : b.length ≤ 3000 := by omega
  apply Tells.seq (fr' := [(1, .ro c (.pb b) 2), (2, .ptr 0 0 0 0), (22, .bool false)]) (H' := H0)
  · simp only [Cm.pay] at hsm
    (refine ⟨0, ?_⟩; simp (maxSteps := 2000000) -implicitDefEqProofs [-getElem?_pos, List.getElem?_cons_zero, List.getElem?_cons_succ, exec, runOps, dstOk, wantedV, AM.step, evalT, evalO, evalArgs, evalParts, getF, putF, afterRegion, assignV, boxOf, newBox, hasIdsP, keepF, ofVal, ofCell, plen, pesz, callV, builtinV, lenV, binV, unV, arith, shiftI, loadV, storeV, putV, indexAddrV, live, upd, pget, pset, psetA, pagg, retag, retagP, byteAV, freezeP, freezeV, joinTags, joinTag, tags, ids, scalar, cellsLen, eqV, convV, faV, fvV, shiftBy, shiftRo, hb, h2, cmO, Cm.pay, mk26, hsm])
  clear hsm
  obtain ⟨ob, hw, hA⟩ := append_ev (H := H0) (a := .ro 0 .pn 0) (a2 := .agg (x.pay (.ro cc (.pb x.dat) 1))) (b := []) hx Byt.nil (hX0 _) (by simp; omega)
  rw [appR_e] at hA
  apply Tells.seq (fr' := [(1, .ro c (.pb b) 2), (2, .ptr 0 0 0 0), (5, .sl H0.length 0 (appR [] x).1.length 0), (6, .int .i64 (chkR x))]) (H' := H0 ++ [some ob])
  · simp only [Cm.pay] at hA
    (refine ⟨0, ?_⟩; simp (maxSteps := 2000000) -implicitDefEqProofs [-getElem?_pos, List.getElem?_cons_zero, List.getElem?_cons_succ, exec, runOps, dstOk, wantedV, AM.step, evalT, evalO, evalArgs, evalParts, getF, putF, afterRegion, assignV, boxOf, newBox, hasIdsP, keepF, ofVal, ofCell, plen, pesz, callV, builtinV, lenV, binV, unV, arith, shiftI, loadV, storeV, putV, indexAddrV, live, upd, pget, pset, psetA, pagg, retag, retagP, byteAV, freezeP, freezeV, joinTags, joinTag, tags, ids, scalar, cellsLen, eqV, convV, faV, fvV, shiftBy, shiftRo, h2, cmO, Cm.pay, mk26, hA])
  clear hA
  have h2' := app_at h2 [some ob]
  have h5 : (H0 ++ [some ob])[H0.length]? = some (some ob) := cat_at H0 _
  generalize H0 ++ [some ob] = H1 at *
  generalize H0.length = o5 at *
  have hC := check_ev (H := H1) hx.k (hX0 H1)
  apply Tells.seq (fr' := [(1, .ro c (.pb b) 2), (2, .ptr 0 0 0 0), (5, .sl o5 0 (appR [] x).1.length 0), (6, .int .i64 (chkR x)), (31, .bool false)]) (H' := H1)
  · simp only [Cm.pay] at hC
    (refine ⟨0, ?_⟩; simp (maxSteps := 2000000) -implicitDefEqProofs [-getElem?_pos, List.getElem?_cons_zero, List.getElem?_cons_succ, exec, runOps, dstOk, wantedV, AM.step, evalT, evalO, evalArgs, evalParts, getF, putF, afterRegion, assignV, boxOf, newBox, hasIdsP, keepF, ofVal, ofCell, plen, pesz, callV, builtinV, lenV, binV, unV, arith, shiftI, loadV, storeV, putV, indexAddrV, live, upd, pget, pset, psetA, pagg, retag, retagP, byteAV, freezeP, freezeV, joinTags, joinTag, tags, ids, scalar, cellsLen, eqV, convV, faV, fvV, shiftBy, shiftRo, h2', cmO, Cm.pay, mk26, hC])
  clear hC
  apply Tells.andThen (P := fun fr H => fr = [(1, .ro c (.pb b) 2), (46, .bool false)] ∨ fr = [(1, .ro c (.pb b) 2), (2, .ptr 0 0 0 0), (5, .sl o5 0 (appR [] x).1.length 0), (33, .bool false)])
  · by_cases h0 : chkR x = 0
    · rw [h0]
      rw [appR_nil x h0] at hw
      simp only at hw
      rw [appR_nil x h0]
      simp only
      have hel := encR_len x
      obtain ⟨d2, N2, hR, hd2⟩ := read_ev (H := H1) (a := .sl o5 0 (encR x).length 0) (b := encR x) (Byt.whole h5 hw) (by omega)
      rw [read_enc x hx h0] at hR hd2
      simp only at hR hd2
      have hsd2 := hd2.scalar
      apply Tells.seq
      · (refine ⟨0, ?_⟩; conv => lhs; simp (maxSteps := 2000000) -implicitDefEqProofs [-getElem?_pos, List.getElem?_cons_zero, List.getElem?_cons_succ, exec, runOps, dstOk, wantedV, AM.step, evalT, evalO, evalArgs, evalParts, getF, putF, afterRegion, assignV, boxOf, newBox, hasIdsP, keepF, ofVal, ofCell, plen, pesz, callV, builtinV, lenV, binV, unV, arith, shiftI, loadV, storeV, putV, indexAddrV, live, upd, pget, pset, psetA, pagg, retag, retagP, byteAV, freezeP, freezeV, joinTags, joinTag, tags, ids, scalar, cellsLen, eqV, convV, faV, fvV, shiftBy, shiftRo])
      refine Tells.of (o := ⟨.normal, [(1, .ro c (.pb b) 2), (46, .bool false)], H1 ++ N2 ++ [some (cmO x d2)]⟩) ?_ ⟨rfl, .inl rfl⟩
      · refine condT (by simp [evalO, getF]) ?_
        apply Run.seq (fr' := [(1, .ro c (.pb b) 2), (2, .ptr 0 0 0 0), (7, .ptr (H1 ++ N2).length 0 0 0), (8, .int .i64 0)]) (H' := H1 ++ N2 ++ [some (cmO x d2)])
        · generalize H1 ++ N2 = H4 at *
          (refine ⟨0, ?_⟩; simp (maxSteps := 2000000) -implicitDefEqProofs [-getElem?_pos, List.getElem?_cons_zero, List.getElem?_cons_succ, exec, runOps, dstOk, wantedV, AM.step, evalT, evalO, evalArgs, evalParts, getF, putF, afterRegion, assignV, boxOf, newBox, hasIdsP, keepF, ofVal, ofCell, plen, pesz, callV, builtinV, lenV, binV, unV, arith, shiftI, loadV, storeV, putV, indexAddrV, live, upd, pget, pset, psetA, pagg, retag, retagP, byteAV, freezeP, freezeV, joinTags, joinTag, tags, ids, scalar, cellsLen, eqV, convV, faV, fvV, shiftBy, shiftRo, hR, -storeV, st26 hsd2])
        have h7 : (H1 ++ N2 ++ [some (cmO x d2)])[(H1 ++ N2).length]? = some (some (cmO x d2)) := cat_at (H1 ++ N2) _
        have h2'' := app_at (app_at h2' N2) [some (cmO x d2)]
        have hY := CmA.of (hd2.app [some (cmO x d2)]).byt
        generalize H1 ++ N2 ++ [some (cmO x d2)] = H5 at *
        generalize (H1 ++ N2).length = o7 at *
        have hSC := sameC_ev (hX0 H5) hY
        rw [(sameC_iff x x).2 rfl] at hSC
        simp only [Cm.pay] at hSC
        (refine ⟨0, ?_⟩; simp (maxSteps := 2000000) -implicitDefEqProofs [-getElem?_pos, List.getElem?_cons_zero, List.getElem?_cons_succ, exec, runOps, dstOk, wantedV, AM.step, evalT, evalO, evalArgs, evalParts, getF, putF, afterRegion, assignV, boxOf, newBox, hasIdsP, keepF, ofVal, ofCell, plen, pesz, callV, builtinV, lenV, binV, unV, arith, shiftI, loadV, storeV, putV, indexAddrV, live, upd, pget, pset, psetA, pagg, retag, retagP, byteAV, freezeP, freezeV, joinTags, joinTag, tags, ids, scalar, cellsLen, eqV, convV, faV, fvV, shiftBy, shiftRo, h2'', h7, cmO, Cm.pay, mk26, hSC])
    · refine Tells.of (o := ⟨.normal, [(1, .ro c (.pb b) 2), (2, .ptr 0 0 0 0), (5, .sl o5 0 (appR [] x).1.length 0), (33, .bool false)], H1⟩) ⟨0, ?_⟩ ⟨rfl, .inr rfl⟩
      have h0b : (chkR x == 0) = false := by simpa using h0
      simp (maxSteps := 2000000) -implicitDefEqProofs [-getElem?_pos, List.getElem?_cons_zero, List.getElem?_cons_succ, exec, runOps, dstOk, wantedV, AM.step, evalT, evalO, evalArgs, evalParts, getF, putF, afterRegion, assignV, boxOf, newBox, hasIdsP, keepF, ofVal, ofCell, plen, pesz, callV, builtinV, lenV, binV, unV, arith, shiftI, loadV, storeV, putV, indexAddrV, live, upd, pget, pset, psetA, pagg, retag, retagP, byteAV, freezeP, freezeV, joinTags, joinTag, tags, ids, scalar, cellsLen, eqV, convV, faV, fvV, shiftBy, shiftRo, h0, h0b]
  clear h2 h2' h5 hw
  intro fr H hfr
  have hpl := fun x => enc_read (b := b) (d := x)
  obtain ⟨d, N, hR, hd⟩ := read_ev (H := H) (a := .ro c (.pb b) 2) (b := b) (Byt.ro (.inl rfl) hc) (by omega)
  have hok := readR_ok b
  have her := readR_err (b := b)
  generalize readR b = r at *
  obtain ⟨y, e⟩ := r
  simp only at hR hd hok hpl her
  have hsd := hd.scalar
  apply Tells.seq (fr' := [(1, .ro c (.pb b) 2), (9, .ptr (H ++ N).length 0 0 0), (10, .int .i64 e)]) (H' := H ++ N ++ [some (cmO y d)])
  · generalize H ++ N = H4 at *
    rcases hfr with rfl | rfl
    · (refine ⟨0, ?_⟩; simp (maxSteps := 2000000) -implicitDefEqProofs [-getElem?_pos, List.getElem?_cons_zero, List.getElem?_cons_succ, exec, runOps, dstOk, wantedV, AM.step, evalT, evalO, evalArgs, evalParts, getF, putF, afterRegion, assignV, boxOf, newBox, hasIdsP, keepF, ofVal, ofCell, plen, pesz, callV, builtinV, lenV, binV, unV, arith, shiftI, loadV, storeV, putV, indexAddrV, live, upd, pget, pset, psetA, pagg, retag, retagP, byteAV, freezeP, freezeV, joinTags, joinTag, tags, ids, scalar, cellsLen, eqV, convV, faV, fvV, shiftBy, shiftRo, hR, -storeV, st26 hsd])
    · (refine ⟨0, ?_⟩; simp (maxSteps := 2000000) -implicitDefEqProofs [-getElem?_pos, List.getElem?_cons_zero, List.getElem?_cons_succ, exec, runOps, dstOk, wantedV, AM.step, evalT, evalO, evalArgs, evalParts, getF, putF, afterRegion, assignV, boxOf, newBox, hasIdsP, keepF, ofVal, ofCell, plen, pesz, callV, builtinV, lenV, binV, unV, arith, shiftI, loadV, storeV, putV, indexAddrV, live, upd, pget, pset, psetA, pagg, retag, retagP, byteAV, freezeP, freezeV, joinTags, joinTag, tags, ids, scalar, cellsLen, eqV, convV, faV, fvV, shiftBy, shiftRo, hR, -storeV, st26 hsd])
  have h9 : (H ++ N ++ [some (cmO y d)])[(H ++ N).length]? = some (some (cmO y d)) := cat_at (H ++ N) _
  have hY := CmA.of (hd.app [some (cmO y d)]).byt
  generalize H ++ N ++ [some (cmO y d)] = H5 at *
  generalize (H ++ N).length = o9 at *
  clear hR hd
  by_cases he : e = 0
  · subst he
    obtain ⟨q1, q2⟩ := hpl y rfl
    obtain ⟨ob2, hw2, hA2⟩ := append_ev (H := H5) (a := .ro 0 .pn 0) (a2 := .agg (y.pay d)) (b := []) hok.1 Byt.nil hY (by simp; omega)
    rw [appR_nil y q1, q2] at hA2 hw2
    simp only at hA2 hw2
    apply Tells.seq
    · (refine ⟨0, ?_⟩; conv => lhs; simp (maxSteps := 2000000) -implicitDefEqProofs [-getElem?_pos, List.getElem?_cons_zero, List.getElem?_cons_succ, exec, runOps, dstOk, wantedV, AM.step, evalT, evalO, evalArgs, evalParts, getF, putF, afterRegion, assignV, boxOf, newBox, hasIdsP, keepF, ofVal, ofCell, plen, pesz, callV, builtinV, lenV, binV, unV, arith, shiftI, loadV, storeV, putV, indexAddrV, live, upd, pget, pset, psetA, pagg, retag, retagP, byteAV, freezeP, freezeV, joinTags, joinTag, tags, ids, scalar, cellsLen, eqV, convV, faV, fvV, shiftBy, shiftRo])
    apply Tells.seq (fr' := [(1, .ro c (.pb b) 2), (11, .sl H5.length 0 b.length 0), (12, .int .i64 0)]) (H' := H5 ++ [some ob2])
    · simp only [Cm.pay] at hA2
      (refine ⟨0, ?_⟩; simp (maxSteps := 2000000) -implicitDefEqProofs [-getElem?_pos, List.getElem?_cons_zero, List.getElem?_cons_succ, exec, runOps, dstOk, wantedV, AM.step, evalT, evalO, evalArgs, evalParts, getF, putF, afterRegion, assignV, boxOf, newBox, hasIdsP, keepF, ofVal, ofCell, plen, pesz, callV, builtinV, lenV, binV, unV, arith, shiftI, loadV, storeV, putV, indexAddrV, live, upd, pget, pset, psetA, pagg, retag, retagP, byteAV, freezeP, freezeV, joinTags, joinTag, tags, ids, scalar, cellsLen, eqV, convV, faV, fvV, shiftBy, shiftRo, h9, cmO, Cm.pay, mk26, hA2])
    have h11 : (H5 ++ [some ob2])[H5.length]? = some (some ob2) := cat_at H5 _
    generalize H5 ++ [some ob2] = H6 at *
    generalize H5.length = o11 at *
    have hSB := sameB_ev (H := H6) (a := .sl o11 0 b.length 0) (a2 := .ro c (.pb b) 2) (Byt.whole h11 hw2) (Byt.ro (.inl rfl) hc)
    rw [beq_self_eq_true] at hSB
    refine Tells.of (o := ⟨.ret, [(4, .bool true)], H6⟩) ⟨0, ?_⟩ ⟨rfl, rfl⟩
    simp (maxSteps := 2000000) -implicitDefEqProofs [-getElem?_pos, List.getElem?_cons_zero, List.getElem?_cons_succ, exec, runOps, dstOk, wantedV, AM.step, evalT, evalO, evalArgs, evalParts, getF, putF, afterRegion, assignV, boxOf, newBox, hasIdsP, keepF, ofVal, ofCell, plen, pesz, callV, builtinV, lenV, binV, unV, arith, shiftI, loadV, storeV, putV, indexAddrV, live, upd, pget, pset, psetA, pagg, retag, retagP, byteAV, freezeP, freezeV, joinTags, joinTag, tags, ids, scalar, cellsLen, eqV, convV, faV, fvV, shiftBy, shiftRo, hSB]
  · have heb : (e != 0) = true := by simpa using he
    have hy := her he
    subst hy
    have hSC := sameC_ev (H := H5) (a2 := .agg (({ k := 0 } : Cm).pay (.ro 0 .pn 0))) hY (y := { k := 0 }) (CmA.ro (.inr ⟨rfl, rfl⟩) (fun _ => rfl))
    rw [(sameC_iff { k := 0 } { k := 0 }).2 rfl] at hSC
    simp only [Cm.pay, Int.cast_ofNat_Int] at hSC
    refine Tells.of (o := ⟨.ret, [(4, .bool true)], H5⟩) ⟨0, ?_⟩ ⟨rfl, rfl⟩
    simp (maxSteps := 2000000) -implicitDefEqProofs [-getElem?_pos, List.getElem?_cons_zero, List.getElem?_cons_succ, exec, runOps, dstOk, wantedV, AM.step, evalT, evalO, evalArgs, evalParts, getF, putF, afterRegion, assignV, boxOf, newBox, hasIdsP, keepF, ofVal, ofCell, plen, pesz, callV, builtinV, lenV, binV, unV, arith, shiftI, loadV, storeV, putV, indexAddrV, live, upd, pget, pset, psetA, pagg, retag, retagP, byteAV, freezeP, freezeV, joinTags, joinTag, tags, ids, scalar, cellsLen, eqV, convV, faV, fvV, shiftBy, shiftRo, he, heb, h9, cmO, Cm.pay, mk26, bd26n, hSC]

end

end Go.Proofs.Ytmdciglfpedhgaa
