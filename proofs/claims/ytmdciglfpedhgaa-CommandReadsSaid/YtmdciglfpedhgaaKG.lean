/- Walks: the law CommandStmt. -/
import Derived.Test.YtmdciglfpedhgaaKF
namespace Go.Proofs.Ytmdciglfpedhgaa
open Go.AM
set_option linter.unusedSimpArgs false
set_option linter.unusedVariables false

theorem live_rw {H : AM.Heap} {o : Nat} {ob : AM.Obj} {p : AV} {g : Nat} (ho : H[o]? = some (some ob)) (h : Rw p g ob) : live H o g = some ob := by
  simp [live, ho, h.g]

theorem app_at {H : AM.Heap} {o : Nat} {x : Option AM.Obj} (h : H[o]? = some x) (N : AM.Heap) : (H ++ N)[o]? = some x := by
  have : o < H.length := (List.getElem?_eq_some_iff.1 h).1
  rw [List.getElem?_append_left this]; exact h

section
variable (c : Nat) (b : List UInt8) (id : Nat)

def stFr (n o7 : Nat) (i : Nat) : AM.Frame := [(0, .ro c (.pb b) 1), (7, .sl o7 0 n 0), (13, .int .i64 (i : Nat))]

set_option maxRecDepth 100000 in
theorem stmt_code (hc : c = 0 → b = []) (hid : id < 4294967296) : ∃ code, Try.f5.body = some code ∧
    Tells (Rets fun fr H => getF fr 4 = .bool true) X (evT X) 5 0 code [(0, .ro c (.pb b) 1), (1, .int .u32 (id : Nat))] [] := by
  refine ⟨_, rfl, ?_⟩
  have hL := lives_ev []
  apply Tells.seq
  · (refine ⟨0, ?_⟩; conv => lhs; simp (maxSteps := 2000000) -implicitDefEqProofs [-getElem?_pos, List.getElem?_cons_zero, List.getElem?_cons_succ, exec, runOps, dstOk, wantedV, AM.step, evalT, evalO, evalArgs, evalParts, getF, putF, afterRegion, assignV, boxOf, newBox, hasIdsP, keepF, ofVal, ofCell, plen, pesz, callV, builtinV, lenV, binV, unV, arith, shiftI, loadV, storeV, putV, indexAddrV, live, upd, pget, pset, psetA, pagg, retag, retagP, byteAV, freezeP, freezeV, joinTags, joinTag, tags, ids, scalar, cellsLen, eqV, convV, faV, fvV, shiftBy, shiftRo])
  apply Tells.seq
  · (refine ⟨0, ?_⟩; conv => lhs; simp (maxSteps := 2000000) -implicitDefEqProofs [-getElem?_pos, List.getElem?_cons_zero, List.getElem?_cons_succ, exec, runOps, dstOk, wantedV, AM.step, evalT, evalO, evalArgs, evalParts, getF, putF, afterRegion, assignV, boxOf, newBox, hasIdsP, keepF, ofVal, ofCell, plen, pesz, callV, builtinV, lenV, binV, unV, arith, shiftI, loadV, storeV, putV, indexAddrV, live, upd, pget, pset, psetA, pagg, retag, retagP, byteAV, freezeP, freezeV, joinTags, joinTag, tags, ids, scalar, cellsLen, eqV, convV, faV, fvV, shiftBy, shiftRo, hL])
  by_cases hb : (3000 : Int) < (b.length : Int)
  · refine Tells.of (o := ⟨.ret, [(4, .bool true)], []⟩) ⟨0, ?_⟩ ⟨rfl, rfl⟩
    simp (maxSteps := 2000000) -implicitDefEqProofs [-getElem?_pos, List.getElem?_cons_zero, List.getElem?_cons_succ, exec, runOps, dstOk, wantedV, AM.step, evalT, evalO, evalArgs, evalParts, getF, putF, afterRegion, assignV, boxOf, newBox, hasIdsP, keepF, ofVal, ofCell, plen, pesz, callV, builtinV, lenV, binV, unV, arith, shiftI, loadV, storeV, putV, indexAddrV, live, upd, pget, pset, psetA, pagg, retag, retagP, byteAV, freezeP, freezeV, joinTags, joinTag, tags, ids, scalar, cellsLen, eqV, convV, faV, fvV, shiftBy, shiftRo, hb]
  apply Tells.seq
  · (refine ⟨0, ?_⟩; conv => lhs; simp (maxSteps := 2000000) -implicitDefEqProofs [-getElem?_pos, List.getElem?_cons_zero, List.getElem?_cons_succ, exec, runOps, dstOk, wantedV, AM.step, evalT, evalO, evalArgs, evalParts, getF, putF, afterRegion, assignV, boxOf, newBox, hasIdsP, keepF, ofVal, ofCell, plen, pesz, callV, builtinV, lenV, binV, unV, arith, shiftI, loadV, storeV, putV, indexAddrV, live, upd, pget, pset, psetA, pagg, retag, retagP, byteAV, freezeP, freezeV, joinTags, joinTag, tags, ids, scalar, cellsLen, eqV, convV, faV, fvV, shiftBy, shiftRo, hb])
  have hbl : b.length ≤ 3000 := by omega
  obtain ⟨d, N, hR, hd⟩ := read_ev (H := []) (a := .ro c (.pb b) 1) (b := b) (Byt.ro (.inl rfl) hc) (by omega)
  have hok := (readR_ok b).1
  rw [List.nil_append] at hR hd
  have hpl := fun x => stmt_plain (b := b) (id := id) (x := x) hid
  have hw0 := ws_ev (H := N ++ [some (cmO (readR b).1 d)]) (a := .ro c (.pb b) 1) (b := b) (id := id) (Byt.ro (.inl rfl) hc) (by omega) hid
  have hwd : wsR b id = if (readR b).2 ≠ 0 then ([], (readR b).2) else if abt (readR b).1.k then appR [] { (readR b).1 with st := id } else ([], 2) := rfl
  generalize readR b = r at *
  obtain ⟨x, e⟩ := r
  simp only at hR hd hok hpl hw0 hwd
  have hsd := hd.scalar
  apply Tells.seq (fr' := [(0, .ro c (.pb b) 1), (1, .int .u32 (id : Nat)), (5, .ptr N.length 0 0 0), (6, .int .i64 e)]) (H' := N ++ [some (cmO x d)])
  · (refine ⟨0, ?_⟩; simp (maxSteps := 2000000) -implicitDefEqProofs [-getElem?_pos, List.getElem?_cons_zero, List.getElem?_cons_succ, exec, runOps, dstOk, wantedV, AM.step, evalT, evalO, evalArgs, evalParts, getF, putF, afterRegion, assignV, boxOf, newBox, hasIdsP, keepF, ofVal, ofCell, plen, pesz, callV, builtinV, lenV, binV, unV, arith, shiftI, loadV, storeV, putV, indexAddrV, live, upd, pget, pset, psetA, pagg, retag, retagP, byteAV, freezeP, freezeV, joinTags, joinTag, tags, ids, scalar, cellsLen, eqV, convV, faV, fvV, shiftBy, shiftRo, hR, -storeV, st26 hsd])
  have h5 : (N ++ [some (cmO x d)])[N.length]? = some (some (cmO x d)) := cat_at N _
  generalize N ++ [some (cmO x d)] = H2 at *
  generalize N.length = o5 at *
  clear hR hd
  obtain ⟨ob, hw, hW⟩ := hw0
  by_cases hgood : e = 0 ∧ abt x.k = true
  · obtain ⟨he, ha⟩ := hgood
    subst he
    obtain ⟨y, q1, q2, q3, q4, q5⟩ := hpl x rfl ha
    rw [q1] at hw hW
    simp only at hw hW
    apply Tells.seq (fr' := [(0, .ro c (.pb b) 1), (1, .int .u32 (id : Nat)), (5, .ptr o5 0 0 0), (6, .int .i64 0), (7, .sl H2.length 0 y.length 0), (8, .int .i64 0)]) (H' := H2 ++ [some ob])
    · (refine ⟨0, ?_⟩; simp (maxSteps := 2000000) -implicitDefEqProofs [-getElem?_pos, List.getElem?_cons_zero, List.getElem?_cons_succ, exec, runOps, dstOk, wantedV, AM.step, evalT, evalO, evalArgs, evalParts, getF, putF, afterRegion, assignV, boxOf, newBox, hasIdsP, keepF, ofVal, ofCell, plen, pesz, callV, builtinV, lenV, binV, unV, arith, shiftI, loadV, storeV, putV, indexAddrV, live, upd, pget, pset, psetA, pagg, retag, retagP, byteAV, freezeP, freezeV, joinTags, joinTag, tags, ids, scalar, cellsLen, eqV, convV, faV, fvV, shiftBy, shiftRo, hW, assignV])
    have h5' := app_at h5 [some ob]
    have h7 : (H2 ++ [some ob])[H2.length]? = some (some ob) := cat_at H2 _
    generalize H2 ++ [some ob] = H3 at *
    generalize H2.length = o7 at *
    have hA := about_ev hok.k H3
    rw [ha] at hA
    apply Tells.seq (fr' := [(0, .ro c (.pb b) 1), (1, .int .u32 (id : Nat)), (5, .ptr o5 0 0 0), (7, .sl o7 0 y.length 0), (8, .int .i64 0), (37, .bool false)]) (H' := H3)
    · (refine ⟨0, ?_⟩; simp (maxSteps := 2000000) -implicitDefEqProofs [-getElem?_pos, List.getElem?_cons_zero, List.getElem?_cons_succ, exec, runOps, dstOk, wantedV, AM.step, evalT, evalO, evalArgs, evalParts, getF, putF, afterRegion, assignV, boxOf, newBox, hasIdsP, keepF, ofVal, ofCell, plen, pesz, callV, builtinV, lenV, binV, unV, arith, shiftI, loadV, storeV, putV, indexAddrV, live, upd, pget, pset, psetA, pagg, retag, retagP, byteAV, freezeP, freezeV, joinTags, joinTag, tags, ids, scalar, cellsLen, eqV, convV, faV, fvV, shiftBy, shiftRo, h5', cmO, Cm.pay, hA])
    obtain ⟨d2, N2, hR2, hd2⟩ := read_ev (H := H3) (a := .sl o7 0 y.length 0) (b := y) (Byt.whole h7 hw) (by omega)
    rw [q3] at hR2 hd2
    simp only at hR2 hd2
    have hsd2 := hd2.scalar
    have h5'' := app_at (app_at h5' N2) [some (cmO { x with st := id } d2)]
    have h7' := app_at (app_at h7 N2) [some (cmO { x with st := id } d2)]
    apply Tells.seq (fr' := [(0, .ro c (.pb b) 1), (1, .int .u32 (id : Nat)), (5, .ptr o5 0 0 0), (7, .sl o7 0 y.length 0), (8, .int .i64 0), (9, .ptr (H3 ++ N2).length 0 0 0), (10, .int .i64 0)]) (H' := H3 ++ N2 ++ [some (cmO { x with st := id } d2)])
    · generalize H3 ++ N2 = H4 at *
      (refine ⟨0, ?_⟩; simp (maxSteps := 2000000) -implicitDefEqProofs [-getElem?_pos, List.getElem?_cons_zero, List.getElem?_cons_succ, exec, runOps, dstOk, wantedV, AM.step, evalT, evalO, evalArgs, evalParts, getF, putF, afterRegion, assignV, boxOf, newBox, hasIdsP, keepF, ofVal, ofCell, plen, pesz, callV, builtinV, lenV, binV, unV, arith, shiftI, loadV, storeV, putV, indexAddrV, live, upd, pget, pset, psetA, pagg, retag, retagP, byteAV, freezeP, freezeV, joinTags, joinTag, tags, ids, scalar, cellsLen, eqV, convV, faV, fvV, shiftBy, shiftRo, hR2, -storeV, st26 hsd2])
    have h9 : (H3 ++ N2 ++ [some (cmO { x with st := id } d2)])[(H3 ++ N2).length]? = some (some (cmO { x with st := id } d2)) := cat_at (H3 ++ N2) _
    generalize H3 ++ N2 ++ [some (cmO { x with st := id } d2)] = H5 at *
    generalize (H3 ++ N2).length = o9 at *
    clear hR2 hd2 hA
    obtain ⟨ob2, hw2, hW2⟩ := ws_ev (H := H5) (a := .sl o7 0 y.length 0) (b := y) (id := x.st) (Byt.whole h7' hw) (by omega) hok.st
    rw [q4] at hw2 hW2
    simp only at hw2 hW2
    have h9' := app_at h9 [some ob2]
    have h7'' := app_at h7' [some ob2]
    apply Tells.seq (fr' := [(0, .ro c (.pb b) 1), (1, .int .u32 (id : Nat)), (7, .sl o7 0 y.length 0), (8, .int .i64 0), (9, .ptr o9 0 0 0), (10, .int .i64 0), (11, .sl H5.length 0 b.length 0), (12, .int .i64 0)]) (H' := H5 ++ [some ob2])
    · (refine ⟨0, ?_⟩; simp (maxSteps := 2000000) -implicitDefEqProofs [-getElem?_pos, List.getElem?_cons_zero, List.getElem?_cons_succ, exec, runOps, dstOk, wantedV, AM.step, evalT, evalO, evalArgs, evalParts, getF, putF, afterRegion, assignV, boxOf, newBox, hasIdsP, keepF, ofVal, ofCell, plen, pesz, callV, builtinV, lenV, binV, unV, arith, shiftI, loadV, storeV, putV, indexAddrV, live, upd, pget, pset, psetA, pagg, retag, retagP, byteAV, freezeP, freezeV, joinTags, joinTag, tags, ids, scalar, cellsLen, eqV, convV, faV, fvV, shiftBy, shiftRo, h5'', cmO, Cm.pay, hW2, assignV])
    have h11 : (H5 ++ [some ob2])[H5.length]? = some (some ob2) := cat_at H5 _
    generalize H5 ++ [some ob2] = H6 at *
    generalize H5.length = o11 at *
    have hSB := sameB_ev (H := H6) (a := .sl o11 0 b.length 0) (a2 := .ro c (.pb b) 1) (Byt.whole h11 hw2) (Byt.ro (.inl rfl) hc)
    rw [beq_self_eq_true] at hSB
    have hg := hw.g
    apply Tells.seq (fr' := [(0, .ro c (.pb b) 1), (7, .sl o7 0 y.length 0), (85, .bool false)]) (H' := H6)
    · (refine ⟨0, ?_⟩; simp (maxSteps := 2000000) -implicitDefEqProofs [-getElem?_pos, List.getElem?_cons_zero, List.getElem?_cons_succ, exec, runOps, dstOk, wantedV, AM.step, evalT, evalO, evalArgs, evalParts, getF, putF, afterRegion, assignV, boxOf, newBox, hasIdsP, keepF, ofVal, ofCell, plen, pesz, callV, builtinV, lenV, binV, unV, arith, shiftI, loadV, storeV, putV, indexAddrV, live, upd, pget, pset, psetA, pagg, retag, retagP, byteAV, freezeP, freezeV, joinTags, joinTag, tags, ids, scalar, cellsLen, eqV, convV, faV, fvV, shiftBy, shiftRo, h7'', hg, h9', cmO, Cm.pay, hSB, q2])
    apply Tells.andThen (P := fun fr H => True)
    · apply Tells.seq (fr' := stFr c b y.length o7 0) (H' := H6)
      · (refine ⟨0, ?_⟩; simp (maxSteps := 2000000) -implicitDefEqProofs [-getElem?_pos, List.getElem?_cons_zero, List.getElem?_cons_succ, exec, runOps, dstOk, wantedV, AM.step, evalT, evalO, evalArgs, evalParts, getF, putF, afterRegion, assignV, boxOf, newBox, hasIdsP, keepF, ofVal, ofCell, plen, pesz, callV, builtinV, lenV, binV, unV, arith, shiftI, loadV, storeV, putV, indexAddrV, live, upd, pget, pset, psetA, pagg, retag, retagP, byteAV, freezeP, freezeV, joinTags, joinTag, tags, ids, scalar, cellsLen, eqV, convV, faV, fvV, shiftBy, shiftRo, stFr])
      apply Tells.block
      refine Tells.loop (σ := Nat) (fun i => i ≤ b.length) (fun i => stFr c b y.length o7 i) (fun _ => H6) (fun i => b.length - i) ?_ 0 (by omega)
      intro i hi
      by_cases hib : i = b.length
      · right
        refine ⟨⟨.exit 0, stFr c b y.length o7 i ++ [(89, .bool false)], H6⟩, ⟨rfl, trivial⟩, by simp, ?_⟩
        subst hib
        (refine ⟨0, ?_⟩; simp (maxSteps := 2000000) -implicitDefEqProofs [-getElem?_pos, List.getElem?_cons_zero, List.getElem?_cons_succ, exec, runOps, dstOk, wantedV, AM.step, evalT, evalO, evalArgs, evalParts, getF, putF, afterRegion, assignV, boxOf, newBox, hasIdsP, keepF, ofVal, ofCell, plen, pesz, callV, builtinV, lenV, binV, unV, arith, shiftI, loadV, storeV, putV, indexAddrV, live, upd, pget, pset, psetA, pagg, retag, retagP, byteAV, freezeP, freezeV, joinTags, joinTag, tags, ids, scalar, cellsLen, eqV, convV, faV, fvV, shiftBy, shiftRo, stFr])
      · left
        have hlt : i < b.length := by omega
        have hltI : (i : Int) < (b.length : Int) := by omega
        have hltY : (i : Int) < (y.length : Int) := by omega
        have w1 : IntKind.i64.wrap ((i : Int) + 1) = ((i + 1 : Nat) : Int) := by rw [wrap_i64 (by omega) (by omega)]; omega
        refine ⟨i + 1, by omega, ?_, by omega⟩
        have hp := hw.p
        have hids := hw.ids
        have htg := hw.tg
        by_cases hr : i < 1 ∨ 4 < i
        · obtain ⟨v, hv⟩ : ∃ v, b[i]? = some v := ⟨b[i], List.getElem?_eq_getElem hlt⟩
          have hy := (q5 i hlt hr).trans hv
          rcases hr with hr | hr
          · have hi1 : (i : Int) < 1 := by omega
            (refine ⟨0, ?_⟩; simp (maxSteps := 2000000) -implicitDefEqProofs [-getElem?_pos, List.getElem?_cons_zero, List.getElem?_cons_succ, exec, runOps, dstOk, wantedV, AM.step, evalT, evalO, evalArgs, evalParts, getF, putF, afterRegion, assignV, boxOf, newBox, hasIdsP, keepF, ofVal, ofCell, plen, pesz, callV, builtinV, lenV, binV, unV, arith, shiftI, loadV, storeV, putV, indexAddrV, live, upd, pget, pset, psetA, pagg, retag, retagP, byteAV, freezeP, freezeV, joinTags, joinTag, tags, ids, scalar, cellsLen, eqV, convV, faV, fvV, shiftBy, shiftRo, stFr, hltI, hltY, hi1, h7'', hg, hp, hids, htg, hy, hv, w1])
          · have hi1 : ¬ (i : Int) < 1 := by omega
            have hi4 : (4 : Int) < (i : Int) := by omega
            (refine ⟨0, ?_⟩; simp (maxSteps := 2000000) -implicitDefEqProofs [-getElem?_pos, List.getElem?_cons_zero, List.getElem?_cons_succ, exec, runOps, dstOk, wantedV, AM.step, evalT, evalO, evalArgs, evalParts, getF, putF, afterRegion, assignV, boxOf, newBox, hasIdsP, keepF, ofVal, ofCell, plen, pesz, callV, builtinV, lenV, binV, unV, arith, shiftI, loadV, storeV, putV, indexAddrV, live, upd, pget, pset, psetA, pagg, retag, retagP, byteAV, freezeP, freezeV, joinTags, joinTag, tags, ids, scalar, cellsLen, eqV, convV, faV, fvV, shiftBy, shiftRo, stFr, hltI, hltY, hi1, hi4, h7'', hg, hp, hids, htg, hy, hv, w1])
        · have hi1 : ¬ (i : Int) < 1 := by omega
          have hi4 : ¬ (4 : Int) < (i : Int) := by omega
          (refine ⟨0, ?_⟩; simp (maxSteps := 2000000) -implicitDefEqProofs [-getElem?_pos, List.getElem?_cons_zero, List.getElem?_cons_succ, exec, runOps, dstOk, wantedV, AM.step, evalT, evalO, evalArgs, evalParts, getF, putF, afterRegion, assignV, boxOf, newBox, hasIdsP, keepF, ofVal, ofCell, plen, pesz, callV, builtinV, lenV, binV, unV, arith, shiftI, loadV, storeV, putV, indexAddrV, live, upd, pget, pset, psetA, pagg, retag, retagP, byteAV, freezeP, freezeV, joinTags, joinTag, tags, ids, scalar, cellsLen, eqV, convV, faV, fvV, shiftBy, shiftRo, stFr, hltI, hltY, hi1, hi4, w1])
    · rintro fr H _
      refine Tells.of (o := ⟨.ret, [(4, .bool true)], H⟩) ⟨0, ?_⟩ ⟨rfl, rfl⟩
      simp (maxSteps := 2000000) -implicitDefEqProofs [-getElem?_pos, List.getElem?_cons_zero, List.getElem?_cons_succ, exec, runOps, dstOk, wantedV, AM.step, evalT, evalO, evalArgs, evalParts, getF, putF, afterRegion, assignV, boxOf, newBox, hasIdsP, keepF, ofVal, ofCell, plen, pesz, callV, builtinV, lenV, binV, unV, arith, shiftI, loadV, storeV, putV, indexAddrV, live, upd, pget, pset, psetA, pagg, retag, retagP, byteAV, freezeP, freezeV, joinTags, joinTag, tags, ids, scalar, cellsLen, eqV, convV, faV, fvV, shiftBy, shiftRo]
  · have hbad : ∃ f, wsR b id = ([], f) ∧ f ≠ 0 := by
      rw [hwd]
      by_cases he : e = 0
      · rw [if_neg (by simpa using he), if_neg (fun h => hgood ⟨he, h⟩)]
        exact ⟨2, rfl, by omega⟩
      · rw [if_pos he]
        exact ⟨e, rfl, he⟩
    obtain ⟨f, hf, hf0⟩ := hbad
    rw [hf] at hw hW
    simp only [List.length_nil] at hw hW
    have hfb : (f != 0) = true := by simpa using hf0
    apply Tells.seq (fr' := [(0, .ro c (.pb b) 1), (1, .int .u32 (id : Nat)), (5, .ptr o5 0 0 0), (6, .int .i64 e), (7, .sl H2.length 0 0 0), (8, .int .i64 f)]) (H' := H2 ++ [some ob])
    · (refine ⟨0, ?_⟩; simp (maxSteps := 2000000) -implicitDefEqProofs [-getElem?_pos, List.getElem?_cons_zero, List.getElem?_cons_succ, exec, runOps, dstOk, wantedV, AM.step, evalT, evalO, evalArgs, evalParts, getF, putF, afterRegion, assignV, boxOf, newBox, hasIdsP, keepF, ofVal, ofCell, plen, pesz, callV, builtinV, lenV, binV, unV, arith, shiftI, loadV, storeV, putV, indexAddrV, live, upd, pget, pset, psetA, pagg, retag, retagP, byteAV, freezeP, freezeV, joinTags, joinTag, tags, ids, scalar, cellsLen, eqV, convV, faV, fvV, shiftBy, shiftRo, hW, assignV])
    have h5' := app_at h5 [some ob]
    have h7 : (H2 ++ [some ob])[H2.length]? = some (some ob) := cat_at H2 _
    generalize H2 ++ [some ob] = H3 at *
    generalize H2.length = o7 at *
    have hg := hw.g
    refine Tells.of (o := ⟨.ret, [(4, .bool true)], H3⟩) ?_ ⟨rfl, rfl⟩
    by_cases he : e = 0
    · subst he
      have ha : abt x.k = false := by
        cases h : abt x.k with
        | false => rfl
        | true => exact absurd ⟨rfl, h⟩ hgood
      have hA := about_ev hok.k H3
      rw [ha] at hA
      refine ⟨0, ?_⟩
      simp (maxSteps := 2000000) -implicitDefEqProofs [-getElem?_pos, List.getElem?_cons_zero, List.getElem?_cons_succ, exec, runOps, dstOk, wantedV, AM.step, evalT, evalO, evalArgs, evalParts, getF, putF, afterRegion, assignV, boxOf, newBox, hasIdsP, keepF, ofVal, ofCell, plen, pesz, callV, builtinV, lenV, binV, unV, arith, shiftI, loadV, storeV, putV, indexAddrV, live, upd, pget, pset, psetA, pagg, retag, retagP, byteAV, freezeP, freezeV, joinTags, joinTag, tags, ids, scalar, cellsLen, eqV, convV, faV, fvV, shiftBy, shiftRo, h5', cmO, Cm.pay, hA, h7, hg, hf0, hfb]
    · have heb : (e != 0) = true := by simpa using he
      refine ⟨0, ?_⟩
      simp (maxSteps := 2000000) -implicitDefEqProofs [-getElem?_pos, List.getElem?_cons_zero, List.getElem?_cons_succ, exec, runOps, dstOk, wantedV, AM.step, evalT, evalO, evalArgs, evalParts, getF, putF, afterRegion, assignV, boxOf, newBox, hasIdsP, keepF, ofVal, ofCell, plen, pesz, callV, builtinV, lenV, binV, unV, arith, shiftI, loadV, storeV, putV, indexAddrV, live, upd, pget, pset, psetA, pagg, retag, retagP, byteAV, freezeP, freezeV, joinTags, joinTag, tags, ids, scalar, cellsLen, eqV, convV, faV, fvV, shiftBy, shiftRo, heb, he, h7, hg, hf0, hfb]

end

end Go.Proofs.Ytmdciglfpedhgaa
