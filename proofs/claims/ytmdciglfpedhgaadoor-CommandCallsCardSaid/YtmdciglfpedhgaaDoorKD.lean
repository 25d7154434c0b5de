/- Walks: WithStmt. -/
import Derived.Test.YtmdciglfpedhgaaDoorKC
namespace Go.Proofs.YtmdciglfpedhgaaDoor
open Go.AM
set_option linter.unusedSimpArgs false
set_option linter.unusedVariables false

theorem bodyR_ok {k : Nat} (hk : k < 256) (s : St) : CmOk (bodyR k s).1 ∧ (bodyR k s).1.txt.length ≤ s.1.length ∧ (bodyR k s).1.dat.length ≤ s.1.length ∧ (bodyR k s).1.k = k := by
  have w4 := fun s => fx_lt (n := 4) s
  have w2 := fun s => fx_lt (n := 2) s
  have w1 := fun s => fx_lt (n := 1) s
  have l4 := fun s => fx_len 4 s
  have l2 := fun s => fx_len 2 s
  have l1 := fun s => fx_len 1 s
  unfold bodyR
  split
  · exact ⟨⟨hk, by simp, by simp, by simp, by simp, by simp⟩, by simp, by simp, rfl⟩
  · exact ⟨⟨hk, by simp, by simp, by simp, by simp, by simp⟩, by simp, by simp, rfl⟩
  · exact ⟨⟨hk, by simp, by simp, by simp, w4 s, by simp⟩, by simp, by simp, rfl⟩
  · refine ⟨⟨hk, w4 s, by simp, w1 _, by simp, by simp⟩, by simp, ?_, rfl⟩
    have h1 := l4 s
    have h2 := l1 (fx 4 s).2
    simp only
    generalize (fx 1 (fx 4 s).2).2 = s2 at *
    have h3 : (if s2.2 = 0 ∧ 1 < (fx 1 (fx 4 s).2).1 then (s2.1, (5 : Int)) else s2).1.length ≤ s2.1.length := by split <;> exact Nat.le_refl _
    generalize (if s2.2 = 0 ∧ 1 < (fx 1 (fx 4 s).2).1 then (s2.1, (5 : Int)) else s2) = s3 at *
    have h4 := l4 s3
    have h5 : (if (fx 4 s3).1 ≠ 1 ∧ (fx 4 s3).2.2 = 0 then ((fx 4 s3).2.1, (5 : Int)) else (fx 4 s3).2).1.length ≤ (fx 4 s3).2.1.length := by split <;> exact Nat.le_refl _
    omega
  · refine ⟨⟨hk, w4 s, w2 _, by simp, by simp, by simp⟩, by simp, ?_, rfl⟩
    have h1 := l4 s
    have h2 := l2 (fx 4 s).2
    simp only
    omega
  · exact ⟨⟨hk, w4 s, by simp, by simp, by simp, by simp⟩, by simp, by simp, rfl⟩
  · exact ⟨⟨hk, by simp, by simp, by simp, by simp, w2 s⟩, by simp, by simp, rfl⟩
  · exact ⟨⟨hk, w4 s, by simp, by simp, w4 _, by simp⟩, by simp, by simp, rfl⟩
  · exact ⟨⟨hk, by simp, by simp, by simp, by simp, by simp⟩, by simp, by simp, rfl⟩

theorem readR_ok (b : List UInt8) : CmOk (readR b).1 ∧ (readR b).1.txt.length ≤ b.length ∧ (readR b).1.dat.length ≤ b.length := by
  have hz : CmOk { k := 0 } := ⟨by simp, by simp, by simp, by simp, by simp, by simp⟩
  have h1 := fx_lt (n := 1) (b, 0)
  have h2 := fx_len 1 (b, 0)
  have h3 := bodyR_ok (k := (fx 1 (b, 0)).1) (by omega) (fx 1 (b, 0)).2
  unfold readR
  simp only at h2 ⊢
  split
  · exact ⟨hz, by simp, by simp⟩
  · split
    · exact ⟨hz, by simp, by simp⟩
    · split
      · exact ⟨hz, by simp, by simp⟩
      · exact ⟨h3.1, Nat.le_trans h3.2.1 h2, Nat.le_trans h3.2.2.1 h2⟩

section
variable (c id : Nat) (b : List UInt8)

set_option maxRecDepth 100000 in
theorem ws_code (hc : c = 0 → b = []) (hb : b.length ≤ 1000000) (hid : id < 4294967296) : ∃ code, Tryd.f20.body = some code ∧
    Tells (Rets fun fr H => ∃ o g ob, getF fr 4 = .sl o 0 (wsR b id).1.length g ∧ getF fr 5 = .int .i64 (wsR b id).2 ∧ H[o]? = some (some ob) ∧ Rw (.pb (wsR b id).1) g ob) X (evT X) 20 0 code [(0, .ro c (.pb b) 1), (1, .int .u32 (id : Nat))] [] := by
  refine ⟨_, rfl, ?_⟩
  obtain ⟨d, N, hR, hd⟩ := read_ev (H := [some nilB]) (a := .ro c (.pb b) 1) (b := b) (Byt.ro (.inl rfl) hc) hb
  obtain ⟨hok, ht, hdl⟩ := readR_ok b
  unfold wsR
  generalize readR b = r at *
  obtain ⟨x, e⟩ := r
  simp only at hR hd hok ht hdl ⊢
  apply Tells.seq
  · (refine ⟨0, ?_⟩; conv => lhs; simp (maxSteps := 2000000) -implicitDefEqProofs [-getElem?_pos, List.getElem?_cons_zero, List.getElem?_cons_succ, exec, runOps, dstOk, wantedV, AM.step, evalT, evalO, evalArgs, evalParts, getF, putF, afterRegion, assignV, boxOf, newBox, hasIdsP, keepF, ofVal, ofCell, plen, pesz, callV, builtinV, lenV, binV, unV, arith, shiftI, loadV, storeV, putV, indexAddrV, live, upd, pget, pset, psetA, pagg, retag, retagP, byteAV, freezeP, freezeV, joinTags, joinTag, tags, ids, scalar, cellsLen, eqV, convV, faV, fvV, shiftBy, shiftRo, assignV, emB])
  generalize [some nilB] ++ N = H1 at *
  have hsd := hd.scalar
  apply Tells.seq (fr' := [(1, .int .u32 (id : Nat)), (6, .ptr H1.length 0 0 0), (7, .int .i64 e)]) (H' := H1 ++ [some (cmO x d)])
  · (refine ⟨0, ?_⟩; simp (maxSteps := 2000000) -implicitDefEqProofs [-getElem?_pos, List.getElem?_cons_zero, List.getElem?_cons_succ, exec, runOps, dstOk, wantedV, AM.step, evalT, evalO, evalArgs, evalParts, getF, putF, afterRegion, assignV, boxOf, newBox, hasIdsP, keepF, ofVal, ofCell, plen, pesz, callV, builtinV, lenV, binV, unV, arith, shiftI, loadV, storeV, putV, indexAddrV, live, upd, pget, pset, psetA, pagg, retag, retagP, byteAV, freezeP, freezeV, joinTags, joinTag, tags, ids, scalar, cellsLen, eqV, convV, faV, fvV, shiftBy, shiftRo, hR, -storeV, st26 hsd])
  have h2 : (H1 ++ [some (cmO x d)])[H1.length]? = some (some (cmO x d)) := cat_at H1 _
  have hd2 := hd.app [some (cmO x d)]
  generalize H1 ++ [some (cmO x d)] = H2 at *
  generalize H1.length = o6 at *
  clear hR hd
  by_cases he : e = 0
  · subst he
    rw [if_neg (by simp)]
    apply Tells.seq
    · (refine ⟨0, ?_⟩; conv => lhs; simp (maxSteps := 2000000) -implicitDefEqProofs [-getElem?_pos, List.getElem?_cons_zero, List.getElem?_cons_succ, exec, runOps, dstOk, wantedV, AM.step, evalT, evalO, evalArgs, evalParts, getF, putF, afterRegion, assignV, boxOf, newBox, hasIdsP, keepF, ofVal, ofCell, plen, pesz, callV, builtinV, lenV, binV, unV, arith, shiftI, loadV, storeV, putV, indexAddrV, live, upd, pget, pset, psetA, pagg, retag, retagP, byteAV, freezeP, freezeV, joinTags, joinTag, tags, ids, scalar, cellsLen, eqV, convV, faV, fvV, shiftBy, shiftRo])
    have hA := about_ev hok.k H2
    by_cases ha : abt x.k = true
    · rw [if_pos ha]
      rw [ha] at hA
      apply Tells.seq
      · (refine ⟨0, ?_⟩; conv => lhs; simp (maxSteps := 2000000) -implicitDefEqProofs [-getElem?_pos, List.getElem?_cons_zero, List.getElem?_cons_succ, exec, runOps, dstOk, wantedV, AM.step, evalT, evalO, evalArgs, evalParts, getF, putF, afterRegion, assignV, boxOf, newBox, hasIdsP, keepF, ofVal, ofCell, plen, pesz, callV, builtinV, lenV, binV, unV, arith, shiftI, loadV, storeV, putV, indexAddrV, live, upd, pget, pset, psetA, pagg, retag, retagP, byteAV, freezeP, freezeV, joinTags, joinTag, tags, ids, scalar, cellsLen, eqV, convV, faV, fvV, shiftBy, shiftRo, h2, cmO, Cm.pay, hA])
      apply Tells.seq (fr' := [(6, .ptr o6 0 0 0)]) (H' := upd H2 o6 (some (cmO { x with st := id } d)))
      · (refine ⟨0, ?_⟩; simp (maxSteps := 2000000) -implicitDefEqProofs [-getElem?_pos, List.getElem?_cons_zero, List.getElem?_cons_succ, exec, runOps, dstOk, wantedV, AM.step, evalT, evalO, evalArgs, evalParts, getF, putF, afterRegion, assignV, boxOf, newBox, hasIdsP, keepF, ofVal, ofCell, plen, pesz, callV, builtinV, lenV, binV, unV, arith, shiftI, loadV, storeV, putV, indexAddrV, live, upd, pget, pset, psetA, pagg, retag, retagP, byteAV, freezeP, freezeV, joinTags, joinTag, tags, ids, scalar, cellsLen, eqV, convV, faV, fvV, shiftBy, shiftRo, h2, cmO, Cm.pay])
      have h3 : (upd H2 o6 (some (cmO { x with st := id } d)))[o6]? = some (some (cmO { x with st := id } d)) := by
        have : o6 < H2.length := (List.getElem?_eq_some_iff.1 h2).1
        simp only [upd]
        rw [List.getElem?_set_self this]
      have hd3 := hd2.upd h2 rfl (some (cmO { x with st := id } d))
      generalize upd H2 o6 (some (cmO { x with st := id } d)) = H3 at *
      have hok2 : CmOk { x with st := id } := ⟨hok.k, hid, hok.pa, hok.fl, hok.co, hok.op⟩
      have hl := load26 h3
      obtain ⟨ob, hw, hAp⟩ := append_ev (H := H3) (a := .ro 0 .pn 0) (a2 := .agg ({ x with st := id : Cm }.pay d)) (b := []) (x := { x with st := id }) hok2 Byt.nil (CmA.of (by exact hd3.byt)) (by simp only [List.length_nil]; omega)
      generalize appR [] { x with st := id } = r at *
      refine Tells.of (o := ⟨.ret, [(4, .sl H3.length 0 r.1.length 0), (5, .int .i64 r.2)], H3 ++ [some ob]⟩) ⟨0, ?_⟩ ⟨rfl, H3.length, 0, ob, rfl, rfl, cat_at _ _, hw⟩
      simp (maxSteps := 2000000) -implicitDefEqProofs [-getElem?_pos, List.getElem?_cons_zero, List.getElem?_cons_succ, exec, runOps, dstOk, wantedV, AM.step, evalT, evalO, evalArgs, evalParts, getF, putF, afterRegion, assignV, boxOf, newBox, hasIdsP, keepF, ofVal, ofCell, plen, pesz, callV, builtinV, lenV, binV, unV, arith, shiftI, loadV, storeV, putV, indexAddrV, live, upd, pget, pset, psetA, pagg, retag, retagP, byteAV, freezeP, freezeV, joinTags, joinTag, tags, ids, scalar, cellsLen, eqV, convV, faV, fvV, shiftBy, shiftRo, -loadV, hl, hAp, assignV]
    · rw [if_neg ha]
      have haf : abt x.k = false := by simpa using ha
      rw [haf] at hA
      refine Tells.of (o := ⟨.ret, [(4, .sl H2.length 0 0 0), (5, .int .i64 2)], H2 ++ [some nilB]⟩) ⟨0, ?_⟩ ⟨rfl, H2.length, 0, nilB, rfl, rfl, cat_at _ _, nilB_rw⟩
      simp (maxSteps := 2000000) -implicitDefEqProofs [-getElem?_pos, List.getElem?_cons_zero, List.getElem?_cons_succ, exec, runOps, dstOk, wantedV, AM.step, evalT, evalO, evalArgs, evalParts, getF, putF, afterRegion, assignV, boxOf, newBox, hasIdsP, keepF, ofVal, ofCell, plen, pesz, callV, builtinV, lenV, binV, unV, arith, shiftI, loadV, storeV, putV, indexAddrV, live, upd, pget, pset, psetA, pagg, retag, retagP, byteAV, freezeP, freezeV, joinTags, joinTag, tags, ids, scalar, cellsLen, eqV, convV, faV, fvV, shiftBy, shiftRo, h2, cmO, Cm.pay, hA, assignV, emB]
  · rw [if_pos (by simpa using he)]
    have heb : (e != 0) = true := by simpa using he
    refine Tells.of (o := ⟨.ret, [(4, .sl H2.length 0 0 0), (5, .int .i64 e)], H2 ++ [some nilB]⟩) ⟨0, ?_⟩ ⟨rfl, H2.length, 0, nilB, rfl, rfl, cat_at _ _, nilB_rw⟩
    simp (maxSteps := 2000000) -implicitDefEqProofs [-getElem?_pos, List.getElem?_cons_zero, List.getElem?_cons_succ, exec, runOps, dstOk, wantedV, AM.step, evalT, evalO, evalArgs, evalParts, getF, putF, afterRegion, assignV, boxOf, newBox, hasIdsP, keepF, ofVal, ofCell, plen, pesz, callV, builtinV, lenV, binV, unV, arith, shiftI, loadV, storeV, putV, indexAddrV, live, upd, pget, pset, psetA, pagg, retag, retagP, byteAV, freezeP, freezeV, joinTags, joinTag, tags, ids, scalar, cellsLen, eqV, convV, faV, fvV, shiftBy, shiftRo, he, heb, assignV, emB]

end

theorem ws_ev {H : AM.Heap} {a : AV} {b : List UInt8} {id : Nat} (h : Byt H a b) (hb : b.length ≤ 1000000) (hid : id < 4294967296) :
    ∃ ob, Rw (.pb (wsR b id).1) 0 ob ∧ evT X 20 [a, .int .u32 (id : Nat)] H = some (.tup [.sl H.length 0 (wsR b id).1.length 0, .int .i64 (wsR b id).2], H ++ [some ob]) := by
  obtain ⟨c, p, xl, hp, hc, hx'⟩ := args_byt (C := X) (f := 20) (i := 0) rfl h (args_flat (i := 1) (a := .int .u32 (id : Nat)) rfl rfl (args_nil 2))
  obtain ⟨code, hcode, hr⟩ := ws_code c id b hc hb hid
  obtain ⟨ob, q1, q2⟩ := Ev1.newB (H := H) (n := (wsR b id).1.length) (l := (wsR b id).1) (rest := [.int .i64 (wsR b id).2]) (evT_below X) Tryd.func20 hcode hx' (by simp [idsL, ids, hp.ids]) (by simp [gtag]) rfl rfl rfl (by
    obtain ⟨o, ⟨he, o1, g, ob, q1, q2, q3, q4⟩, hrun⟩ := hr
    exact ⟨o, ⟨he, o1, g, ob, by show some [getF o.fr 4, getF o.fr 5] = _; rw [q1, q2], q3, q4⟩, by rw [par20, coB hp]; exact hrun⟩)
  exact ⟨ob, q1, evT_eq q2⟩

end Go.Proofs.YtmdciglfpedhgaaDoor
