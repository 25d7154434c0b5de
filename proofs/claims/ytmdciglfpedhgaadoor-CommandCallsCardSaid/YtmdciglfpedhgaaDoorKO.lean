/- What the document's Append and WithStmt tell: the same. -/
import Derived.Test.YtmdciglfpedhgaaDoorKN
import Derived.Test.YtmdciglfpedhgaaDoorAm3
namespace Go.Proofs.YtmdciglfpedhgaaDoor
open Go.AM
set_option linter.unusedSimpArgs false
set_option linter.unusedVariables false

def encP (x : Cm) (m : List UInt8) : List UInt8 :=
  match shp x.k with
  | 0 => m
  | 1 => m ++ x.txt
  | 2 => m ++ leB 4 x.co
  | 3 => m ++ leB 4 x.st ++ [UInt8.ofNat x.fl, 1, 0, 0, 0] ++ x.dat
  | 4 => m ++ leB 4 x.st ++ leB 2 x.pa ++ x.dat
  | 5 => m ++ leB 4 x.st
  | 6 => m ++ leB 2 x.op
  | 7 => m ++ leB 4 x.st ++ leB 4 x.co
  | _ => m ++ x.dat

theorem encP_eq {x : Cm} (b : List UInt8) (h : chkR x = 0) : encP x (b ++ [UInt8.ofNat x.k]) = b ++ (UInt8.ofNat x.k :: (encH x ++ x.dat)) := by
  have h1 := ((chk_iff x).1 h).1
  have h9 := shp_lt x.k
  unfold encP encH
  unfold barR at h1
  generalize shp x.k = j at *
  match j, h9 with
  | 0, _ | 1, _ | 2, _ | 5, _ | 6, _ | 7, _ =>
    have hd : x.dat = [] := by rw [← h1]; rfl
    simp [hd]
  | 3, _ | 4, _ | 8, _ => simp

theorem appF_all (x : Cm) (c t : Nat) (p : AV) (m : List UInt8) (ob : AM.Obj) (hx : CmOk x) (hp : PB p x.dat) (hw : Rw (.pb m) 1 ob) (hm : m.length + x.txt.length + x.dat.length ≤ 70000000) : ∃ c4 c6, asO = some c4 ∧ abO = some c6 ∧
    Tells (Goes (apF (encP x m))) X (evT X) 9 0 (.seq c4 c6) (aFr 2 m.length 1 ((shp x.k : Nat) : Int)) [some (cmO x (.ro c p t)), some nilB, some ob] := by
  have h9 := shp_lt x.k
  have hl4 := leB_len 4 x.st
  have hm2 : (m ++ leB 4 x.st).length + x.txt.length + x.dat.length ≤ 80000000 := by rw [List.length_append, hl4]; omega
  unfold encP
  generalize shp x.k = j at *
  match j, h9 with
  | 0, _ =>
    obtain ⟨c4, h4, r4⟩ := as0 x c t p m ob
    obtain ⟨c6, h6, r6⟩ := ab0 x c t p m ob hx hp hw (by omega)
    exact ⟨c4, c6, h4, h6, Tells.seq r4 r6⟩
  | 1, _ =>
    obtain ⟨c4, h4, r4⟩ := as1 x c t p m ob
    obtain ⟨c6, h6, r6⟩ := ab1 x c t p m ob hx hp hw (by omega)
    exact ⟨c4, c6, h4, h6, Tells.seq r4 r6⟩
  | 2, _ =>
    obtain ⟨c4, h4, r4⟩ := as2 x c t p m ob
    obtain ⟨c6, h6, r6⟩ := ab2 x c t p m ob hx hp hw (by omega)
    exact ⟨c4, c6, h4, h6, Tells.seq r4 r6⟩
  | 3, _ =>
    obtain ⟨c4, h4, ob1, hw1, r4⟩ := as3 x c t p m ob hx hw (by omega)
    obtain ⟨c6, h6, r6⟩ := ab3 x c t p (m ++ leB 4 x.st) ob ob1 hx hp hw1 hm2
    exact ⟨c4, c6, h4, h6, Tells.seq r4 r6⟩
  | 4, _ =>
    obtain ⟨c4, h4, ob1, hw1, r4⟩ := as4 x c t p m ob hx hw (by omega)
    obtain ⟨c6, h6, r6⟩ := ab4 x c t p (m ++ leB 4 x.st) ob ob1 hx hp hw1 hm2
    exact ⟨c4, c6, h4, h6, Tells.seq r4 r6⟩
  | 5, _ =>
    obtain ⟨c4, h4, ob1, hw1, r4⟩ := as5 x c t p m ob hx hw (by omega)
    obtain ⟨c6, h6, r6⟩ := ab5 x c t p (m ++ leB 4 x.st) ob ob1 hx hp hw1 hm2
    exact ⟨c4, c6, h4, h6, Tells.seq r4 r6⟩
  | 6, _ =>
    obtain ⟨c4, h4, r4⟩ := as6 x c t p m ob
    obtain ⟨c6, h6, r6⟩ := ab6 x c t p m ob hx hp hw (by omega)
    exact ⟨c4, c6, h4, h6, Tells.seq r4 r6⟩
  | 7, _ =>
    obtain ⟨c4, h4, ob1, hw1, r4⟩ := as7 x c t p m ob hx hw (by omega)
    obtain ⟨c6, h6, r6⟩ := ab7 x c t p (m ++ leB 4 x.st) ob ob1 hx hp hw1 hm2
    exact ⟨c4, c6, h4, h6, Tells.seq r4 r6⟩
  | 8, _ =>
    obtain ⟨c4, h4, r4⟩ := as8 x c t p m ob
    obtain ⟨c6, h6, r6⟩ := ab8 x c t p m ob hx hp hw (by omega)
    exact ⟨c4, c6, h4, h6, Tells.seq r4 r6⟩

theorem chk2 {x : Cm} (h : chkR x ≠ 0) : chkR x = 2 := by
  unfold chkR at h ⊢
  split
  · rename_i h2; rw [if_pos h2] at h; exact absurd rfl h
  · rfl

set_option maxRecDepth 100000 in
theorem rappend_code (x : Cm) (c cb t : Nat) (p : AV) (b : List UInt8) (hx : CmOk x) (hp : PB p x.dat) (hc : c = 0 → x.dat = []) (hcb : cb = 0 → b = []) (hb : b.length + x.txt.length + x.dat.length ≤ 10000000) : ∃ code, Tryd.f9.body = some code ∧
    Tells (Rets fun fr H => ∃ o g ob, getF fr 4 = .sl o 0 (appR b x).1.length g ∧ getF fr 5 = .int .i64 (appR b x).2 ∧ H[o]? = some (some ob) ∧ Rw (.pb (appR b x).1) g ob) X (evT X) 9 0 code [(0, .ro cb (.pb b) 1), (1, .agg (x.pay (.ro c p t)))] [] := by
  refine ⟨_, rfl, ?_⟩
  have hC := rcheck_ev (H := [some (cmO x (.ro c p t)), some nilB]) (a := .agg (x.pay (.ro c p t))) hx.k (CmA.ro hp hc)
  apply Tells.seq (fr' := [(0, .ro cb (.pb b) 1), (3, .ptr 0 0 0 0)]) (H' := [some (cmO x (.ro c p t)), some nilB])
  · (refine ⟨0, ?_⟩; simp (maxSteps := 2000000) -implicitDefEqProofs [-getElem?_pos, List.getElem?_cons_zero, List.getElem?_cons_succ, exec, runOps, dstOk, wantedV, AM.step, evalT, evalO, evalArgs, evalParts, getF, putF, afterRegion, assignV, boxOf, newBox, hasIdsP, keepF, ofVal, ofCell, plen, pesz, callV, builtinV, lenV, binV, unV, arith, shiftI, loadV, storeV, putV, indexAddrV, live, upd, pget, pset, psetA, pagg, retag, retagP, byteAV, freezeP, freezeV, joinTags, joinTag, tags, ids, scalar, cellsLen, eqV, convV, faV, fvV, shiftBy, shiftRo, cmO, Cm.pay, assignV, emB])
  unfold appR
  by_cases h0 : chkR x = 0
  · rw [if_pos h0, ← encP_eq b h0]
    rw [h0] at hC
    apply Tells.seq
    · simp only [cmO, Cm.pay] at hC
      (refine ⟨0, ?_⟩; conv => lhs; simp (maxSteps := 2000000) -implicitDefEqProofs [-getElem?_pos, List.getElem?_cons_zero, List.getElem?_cons_succ, exec, runOps, dstOk, wantedV, AM.step, evalT, evalO, evalArgs, evalParts, getF, putF, afterRegion, assignV, boxOf, newBox, hasIdsP, keepF, ofVal, ofCell, plen, pesz, callV, builtinV, lenV, binV, unV, arith, shiftI, loadV, storeV, putV, indexAddrV, live, upd, pget, pset, psetA, pagg, retag, retagP, byteAV, freezeP, freezeV, joinTags, joinTag, tags, ids, scalar, cellsLen, eqV, convV, faV, fvV, shiftBy, shiftRo, cmO, Cm.pay, hC, mk26])
    clear hC
    have hb0 := fun H => bs0 H
    have hA0 := app_lit (H := [some (cmO x (.ro c p t)), some nilB]) (m := b) (src := .ro cb (.pb b) 1) (srcB (.inl rfl)) (by omega)
    have hw0 : Rw (.pb b) 0 ⟨.pb b, 0, .none, 1, true, false, 0⟩ := ⟨rfl, rfl, rfl, rfl, rfl⟩
    generalize (⟨.pb b, 0, .none, 1, true, false, 0⟩ : AM.Obj) = ob0 at *
    obtain ⟨ob1, hw1, hA⟩ := app_b (H := [some (cmO x (.ro c p t)), some nilB, some ob0]) (o := 2) (m := [UInt8.ofNat x.k]) (src := .ro 1 (.pb [UInt8.ofNat x.k]) 0) rfl hw0 (.inl rfl) (by simp; omega)
    have hb1 := fun H => bs1k hx.k H
    have hS := fun H => shapeF_ev hx.k H
    apply Tells.seq (fr' := [(3, .ptr 0 0 0 0), (6, .sl 2 0 (b ++ [UInt8.ofNat x.k]).length 1)]) (H' := [some (cmO x (.ro c p t)), some nilB, some ob1])
    · have hg := hw0.g
      have hpp := hw0.p
      have hids := hw0.ids
      simp only [cmO, Cm.pay] at hA hA0
      rw [List.length_append]
      generalize UInt8.ofNat x.k = kb at *
      apply Run.dy (by simp) keep9_3 (by simp)
      · (conv => lhs; simp (maxSteps := 2000000) -implicitDefEqProofs [-getElem?_pos, List.getElem?_cons_zero, List.getElem?_cons_succ, exec, runOps, dstOk, wantedV, AM.step, evalT, evalO, evalArgs, evalParts, getF, putF, afterRegion, assignV, boxOf, newBox, hasIdsP, keepF, ofVal, ofCell, plen, pesz, callV, builtinV, lenV, binV, unV, arith, shiftI, loadV, storeV, putV, indexAddrV, live, upd, pget, pset, psetA, pagg, retag, retagP, byteAV, freezeP, freezeV, joinTags, joinTag, tags, ids, scalar, cellsLen, eqV, convV, faV, fvV, shiftBy, shiftRo, runD, out1, markOf, freeO, quietO, pushes, isAssign, calledV, touched, mentioned, opVals, touchCall, mentionCall, idsAt, Op.operands, ids, idsL, lendArgs, lendV, lend1, lendL, cmO, Cm.pay, hb0, hA0, hA, hb1, upd, assignV, reach_none, hg, hpp, hids, psub])
        rfl
      · kernel_rfl
      · rfl
    apply Tells.seq (fr' := aFr 2 (b ++ [UInt8.ofNat x.k]).length 1 ((shp x.k : Nat) : Int)) (H' := [some (cmO x (.ro c p t)), some nilB, some ob1])
    · (refine ⟨0, ?_⟩; simp (maxSteps := 2000000) -implicitDefEqProofs [-getElem?_pos, List.getElem?_cons_zero, List.getElem?_cons_succ, exec, runOps, dstOk, wantedV, AM.step, evalT, evalO, evalArgs, evalParts, getF, putF, afterRegion, assignV, boxOf, newBox, hasIdsP, keepF, ofVal, ofCell, plen, pesz, callV, builtinV, lenV, binV, unV, arith, shiftI, loadV, storeV, putV, indexAddrV, live, upd, pget, pset, psetA, pagg, retag, retagP, byteAV, freezeP, freezeV, joinTags, joinTag, tags, ids, scalar, cellsLen, eqV, convV, faV, fvV, shiftBy, shiftRo, cmO, Cm.pay, hS, aFr])
    clear hS hA hb1 hA0
    have hbl : (b ++ [UInt8.ofNat x.k]).length = b.length + 1 := by simp
    apply Tells.unassoc
    apply Tells.andThen (P := apF (encP x (b ++ [UInt8.ofNat x.k])))
    · obtain ⟨c4, c6, h4, h6, hblk⟩ := appF_all x c t p (b ++ [UInt8.ofNat x.k]) ob1 hx hp hw1 (by omega)
      have gen : ∀ a d, asO = some a → abO = some d → Tells (Goes (apF (encP x (b ++ [UInt8.ofNat x.k])))) X (evT X) 9 0 (.seq a d) (aFr 2 (b ++ [UInt8.ofNat x.k]).length 1 ((shp x.k : Nat) : Int)) [some (cmO x (.ro c p t)), some nilB, some ob1] := fun a d h h' => by
        rw [h4] at h; rw [h6] at h'
        exact (Option.some.inj h) ▸ (Option.some.inj h') ▸ hblk
      exact gen _ _ rfl rfl
    generalize encP x (b ++ [UInt8.ofNat x.k]) = res
    rintro fr H ⟨o, g, ob, hfr, ho, hw⟩
    refine Tells.of (o := ⟨.ret, [(4, .sl o 0 res.length g), (5, .int .i64 0)], H⟩) ⟨0, ?_⟩ ⟨rfl, o, g, ob, rfl, rfl, ho, hw⟩
    rcases hfr with rfl | rfl
    · simp (maxSteps := 2000000) -implicitDefEqProofs [-getElem?_pos, List.getElem?_cons_zero, List.getElem?_cons_succ, exec, runOps, dstOk, wantedV, AM.step, evalT, evalO, evalArgs, evalParts, getF, putF, afterRegion, assignV, boxOf, newBox, hasIdsP, keepF, ofVal, ofCell, plen, pesz, callV, builtinV, lenV, binV, unV, arith, shiftI, loadV, storeV, putV, indexAddrV, live, upd, pget, pset, psetA, pagg, retag, retagP, byteAV, freezeP, freezeV, joinTags, joinTag, tags, ids, scalar, cellsLen, eqV, convV, faV, fvV, shiftBy, shiftRo, assignV]
    · simp (maxSteps := 2000000) -implicitDefEqProofs [-getElem?_pos, List.getElem?_cons_zero, List.getElem?_cons_succ, exec, runOps, dstOk, wantedV, AM.step, evalT, evalO, evalArgs, evalParts, getF, putF, afterRegion, assignV, boxOf, newBox, hasIdsP, keepF, ofVal, ofCell, plen, pesz, callV, builtinV, lenV, binV, unV, arith, shiftI, loadV, storeV, putV, indexAddrV, live, upd, pget, pset, psetA, pagg, retag, retagP, byteAV, freezeP, freezeV, joinTags, joinTag, tags, ids, scalar, cellsLen, eqV, convV, faV, fvV, shiftBy, shiftRo, assignV]
  · rw [if_neg h0]
    have h0b : (chkR x != 0) = true := by simpa using h0
    rw [chk2 h0] at hC h0b ⊢
    refine Tells.of (o := ⟨.ret, [(4, .sl 2 0 0 0), (5, .int .i64 2)], [some (cmO x (.ro c p t)), some nilB, some nilB]⟩) ⟨0, ?_⟩ ⟨rfl, 2, 0, nilB, rfl, rfl, rfl, nilB_rw⟩
    simp only [cmO, Cm.pay] at hC
    simp (maxSteps := 2000000) -implicitDefEqProofs [-getElem?_pos, List.getElem?_cons_zero, List.getElem?_cons_succ, exec, runOps, dstOk, wantedV, AM.step, evalT, evalO, evalArgs, evalParts, getF, putF, afterRegion, assignV, boxOf, newBox, hasIdsP, keepF, ofVal, ofCell, plen, pesz, callV, builtinV, lenV, binV, unV, arith, shiftI, loadV, storeV, putV, indexAddrV, live, upd, pget, pset, psetA, pagg, retag, retagP, byteAV, freezeP, freezeV, joinTags, joinTag, tags, ids, scalar, cellsLen, eqV, convV, faV, fvV, shiftBy, shiftRo, cmO, Cm.pay, hC, mk26, assignV, emB]

theorem rappend_ev {H : AM.Heap} {a a2 : AV} {b : List UInt8} {x : Cm} (hx : CmOk x) (h : Byt H a b) (h2 : CmA H a2 x) (hb : b.length + x.txt.length + x.dat.length ≤ 10000000) :
    ∃ ob, Rw (.pb (appR b x).1) 0 ob ∧ evT X 9 [a, a2] H = some (.tup [.sl H.length 0 (appR b x).1.length 0, .int .i64 (appR b x).2], H ++ [some ob]) := by
  obtain ⟨c, p, ln, hp, hc, hl⟩ := args_cm (f := 9) (i := 1) h2 (args_nil 2)
  obtain ⟨cb, pb, xl, hpb, hcb, hx'⟩ := args_byt (C := X) (f := 9) (i := 0) rfl h hl
  obtain ⟨code, hcode, hr⟩ := rappend_code x c cb 2 p b hx hp hc hcb hb
  obtain ⟨ob, q1, q2⟩ := Ev1.newB (H := H) (n := (appR b x).1.length) (l := (appR b x).1) (rest := [.int .i64 (appR b x).2]) (evT_below X) Tryd.func9 hcode hx' (by simp [Cm.pay, idsL, ids, hp.ids, hpb.ids]) (by simp [gtag]) rfl rfl rfl (by
    obtain ⟨o, ⟨he, o1, g, ob, q1, q2, q3, q4⟩, hrun⟩ := hr
    exact ⟨o, ⟨he, o1, g, ob, by show some [getF o.fr 4, getF o.fr 5] = _; rw [q1, q2], q3, q4⟩, by rw [par9, coB hpb]; exact hrun⟩)
  exact ⟨ob, q1, evT_eq q2⟩

end Go.Proofs.YtmdciglfpedhgaaDoor
