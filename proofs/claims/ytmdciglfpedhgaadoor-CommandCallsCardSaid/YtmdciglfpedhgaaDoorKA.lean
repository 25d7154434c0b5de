/- Walks: Append. -/
import Derived.Test.YtmdciglfpedhgaaDoorK9
namespace Go.Proofs.YtmdciglfpedhgaaDoor
open Go.AM
set_option linter.unusedSimpArgs false
set_option linter.unusedVariables false

theorem ap_all (x : Cm) (c t : Nat) (p : AV) (m : List UInt8) (ob : AM.Obj) (hx : CmOk x) (hw : Rw (.pb m) 1 ob) (hm : m.length + x.txt.length ≤ 80000000) : ∃ code, apO = some code ∧
    Tells (Goes (apP (some (cmO x (.ro c p t))) (m ++ encH x))) X (evT X) 7 0 code (apFr ((shp x.k : Nat) : Int) m.length) [some (cmO x (.ro c p t)), some nilB, some ob] := by
  have h9 := shp_lt x.k
  unfold encH
  generalize shp x.k = j at *
  match j, h9 with
  | 0, _ => exact ap0 x c t p m ob hx hw hm
  | 1, _ => exact ap1 x c t p m ob hx hw hm
  | 2, _ => exact ap2 x c t p m ob hx hw hm
  | 3, _ => exact ap3 x c t p m ob hx hw hm
  | 4, _ => exact ap4 x c t p m ob hx hw hm
  | 5, _ => exact ap5 x c t p m ob hx hw hm
  | 6, _ => exact ap6 x c t p m ob hx hw hm
  | 7, _ => exact ap7 x c t p m ob hx hw hm
  | 8, _ => exact ap8 x c t p m ob hx hw hm

def appR (b : List UInt8) (x : Cm) : List UInt8 × Int := if chkR x = 0 then (b ++ (UInt8.ofNat x.k :: (encH x ++ x.dat)), 0) else ([], chkR x)

set_option maxRecDepth 100000 in
theorem append_code (x : Cm) (c cb t : Nat) (p : AV) (b : List UInt8) (hx : CmOk x) (hp : PB p x.dat) (hc : c = 0 → x.dat = []) (hcb : cb = 0 → b = []) (hb : b.length + x.txt.length + x.dat.length ≤ 10000000) : ∃ code, Tryd.f7.body = some code ∧
    Tells (Rets fun fr H => ∃ o g ob, getF fr 4 = .sl o 0 (appR b x).1.length g ∧ getF fr 5 = .int .i64 (appR b x).2 ∧ H[o]? = some (some ob) ∧ Rw (.pb (appR b x).1) g ob) X (evT X) 7 0 code [(0, .ro cb (.pb b) 1), (1, .agg (x.pay (.ro c p t)))] [] := by
  refine ⟨_, rfl, ?_⟩
  have hC := check_ev (H := [some (cmO x (.ro c p t)), some nilB]) (a := .agg (x.pay (.ro c p t))) hx.k (CmA.ro hp hc)
  apply Tells.seq (fr' := [(0, .ro cb (.pb b) 1), (3, .ptr 0 0 0 0)]) (H' := [some (cmO x (.ro c p t)), some nilB])
  · (refine ⟨0, ?_⟩; simp (maxSteps := 2000000) -implicitDefEqProofs [-getElem?_pos, List.getElem?_cons_zero, List.getElem?_cons_succ, exec, runOps, dstOk, wantedV, AM.step, evalT, evalO, evalArgs, evalParts, getF, putF, afterRegion, assignV, boxOf, newBox, hasIdsP, keepF, ofVal, ofCell, plen, pesz, callV, builtinV, lenV, binV, unV, arith, shiftI, loadV, storeV, putV, indexAddrV, live, upd, pget, pset, psetA, pagg, retag, retagP, byteAV, freezeP, freezeV, joinTags, joinTag, tags, ids, scalar, cellsLen, eqV, convV, faV, fvV, shiftBy, shiftRo, cmO, Cm.pay, assignV, emB])
  unfold appR
  by_cases h0 : chkR x = 0
  · rw [if_pos h0]
    rw [h0] at hC
    apply Tells.assoc
    apply Tells.seq (fr' := [(0, .ro cb (.pb b) 1), (3, .ptr 0 0 0 0), (6, .int .i64 0)]) (H' := [some (cmO x (.ro c p t)), some nilB])
    · simp only [cmO, Cm.pay] at hC
      (refine ⟨0, ?_⟩; simp (maxSteps := 2000000) -implicitDefEqProofs [-getElem?_pos, List.getElem?_cons_zero, List.getElem?_cons_succ, exec, runOps, dstOk, wantedV, AM.step, evalT, evalO, evalArgs, evalParts, getF, putF, afterRegion, assignV, boxOf, newBox, hasIdsP, keepF, ofVal, ofCell, plen, pesz, callV, builtinV, lenV, binV, unV, arith, shiftI, loadV, storeV, putV, indexAddrV, live, upd, pget, pset, psetA, pagg, retag, retagP, byteAV, freezeP, freezeV, joinTags, joinTag, tags, ids, scalar, cellsLen, eqV, convV, faV, fvV, shiftBy, shiftRo, cmO, Cm.pay, hC, mk26])
    apply Tells.seq
    · (refine ⟨0, ?_⟩; conv => lhs; simp (maxSteps := 2000000) -implicitDefEqProofs [-getElem?_pos, List.getElem?_cons_zero, List.getElem?_cons_succ, exec, runOps, dstOk, wantedV, AM.step, evalT, evalO, evalArgs, evalParts, getF, putF, afterRegion, assignV, boxOf, newBox, hasIdsP, keepF, ofVal, ofCell, plen, pesz, callV, builtinV, lenV, binV, unV, arith, shiftI, loadV, storeV, putV, indexAddrV, live, upd, pget, pset, psetA, pagg, retag, retagP, byteAV, freezeP, freezeV, joinTags, joinTag, tags, ids, scalar, cellsLen, eqV, convV, faV, fvV, shiftBy, shiftRo])
    clear hC
    have hcl := clone_ev (H := [some (cmO x (.ro c p t)), some nilB]) (a := .ro cb (.pb b) 1) (b := b) (Byt.ro (.inl rfl) hcb) (by omega)
    obtain ⟨ob0, hw0, hcl⟩ := hcl
    obtain ⟨ob1, hw1, hA⟩ := app_b (H := [some (cmO x (.ro c p t)), some nilB, some ob0]) (o := 2) (m := [UInt8.ofNat x.k]) (src := .ro 1 (.pb [UInt8.ofNat x.k]) 0) rfl hw0 (.inl rfl) (by simp; omega)
    have hb1 := fun H => bs1k hx.k H
    have hS := fun H => shape_ev hx.k H
    apply Tells.seq (fr' := [(3, .ptr 0 0 0 0), (7, .sl 2 0 (b ++ [UInt8.ofNat x.k]).length 1)]) (H' := [some (cmO x (.ro c p t)), some nilB, some ob1])
    · have hg := hw0.g
      have hpp := hw0.p
      have hids := hw0.ids
      simp only [cmO, Cm.pay] at hcl hA
      rw [List.length_append]
      generalize UInt8.ofNat x.k = kb at *
      apply Run.dy (by simp) keep7_4 (by simp)
      · (conv => lhs; simp (maxSteps := 2000000) -implicitDefEqProofs [-getElem?_pos, List.getElem?_cons_zero, List.getElem?_cons_succ, exec, runOps, dstOk, wantedV, AM.step, evalT, evalO, evalArgs, evalParts, getF, putF, afterRegion, assignV, boxOf, newBox, hasIdsP, keepF, ofVal, ofCell, plen, pesz, callV, builtinV, lenV, binV, unV, arith, shiftI, loadV, storeV, putV, indexAddrV, live, upd, pget, pset, psetA, pagg, retag, retagP, byteAV, freezeP, freezeV, joinTags, joinTag, tags, ids, scalar, cellsLen, eqV, convV, faV, fvV, shiftBy, shiftRo, runD, out1, markOf, freeO, quietO, pushes, isAssign, calledV, touched, mentioned, opVals, touchCall, mentionCall, idsAt, Op.operands, ids, idsL, lendArgs, lendV, lend1, lendL, cmO, Cm.pay, hcl, hA, hb1, upd, assignV, reach_none, hg, hpp, hids, psub])
        rfl
      · kernel_rfl
      · rfl
    apply Tells.assoc
    apply Tells.seq (fr' := apFr ((shp x.k : Nat) : Int) (b ++ [UInt8.ofNat x.k]).length) (H' := [some (cmO x (.ro c p t)), some nilB, some ob1])
    · (refine ⟨0, ?_⟩; simp (maxSteps := 2000000) -implicitDefEqProofs [-getElem?_pos, List.getElem?_cons_zero, List.getElem?_cons_succ, exec, runOps, dstOk, wantedV, AM.step, evalT, evalO, evalArgs, evalParts, getF, putF, afterRegion, assignV, boxOf, newBox, hasIdsP, keepF, ofVal, ofCell, plen, pesz, callV, builtinV, lenV, binV, unV, arith, shiftI, loadV, storeV, putV, indexAddrV, live, upd, pget, pset, psetA, pagg, retag, retagP, byteAV, freezeP, freezeV, joinTags, joinTag, tags, ids, scalar, cellsLen, eqV, convV, faV, fvV, shiftBy, shiftRo, cmO, Cm.pay, hS, apFr])
    clear hS hA hcl hb1
    have hbl : (b ++ [UInt8.ofNat x.k]).length = b.length + 1 := by simp
    apply Tells.andThen (P := apP (some (cmO x (.ro c p t))) ((b ++ [UInt8.ofNat x.k]) ++ encH x))
    · obtain ⟨code, hcode, hblk⟩ := ap_all x c t p (b ++ [UInt8.ofNat x.k]) ob1 hx hw1 (by omega)
      have gen : ∀ code', apO = some code' → Tells (Goes (apP (some (cmO x (.ro c p t))) ((b ++ [UInt8.ofNat x.k]) ++ encH x))) X (evT X) 7 0 code' (apFr ((shp x.k : Nat) : Int) (b ++ [UInt8.ofNat x.k]).length) [some (cmO x (.ro c p t)), some nilB, some ob1] := fun code' h => by
        rw [hcode] at h
        exact (Option.some.inj h) ▸ hblk
      exact gen _ rfl
    have hel : (encH x).length ≤ 8 + 1 + x.txt.length := by
      unfold encH
      split <;> simp [leB_len] <;> omega
    rintro fr H ⟨o, g, ob, tl, ext, rfl, rfl, ho, hw, h0o⟩
    obtain ⟨ob2, hw2, hA⟩ := app_b (src := .ro c p t) (m := x.dat) ho hw (srcB hp) (by simp; omega)
    rw [show (b ++ [UInt8.ofNat x.k] ++ encH x ++ x.dat) = b ++ (UInt8.ofNat x.k :: (encH x ++ x.dat)) by simp] at hw2
    have hll : (b ++ [UInt8.ofNat x.k] ++ encH x).length + x.dat.length = (b ++ (UInt8.ofNat x.k :: (encH x ++ x.dat))).length := by simp; omega
    rw [hll] at hA
    generalize (b ++ [UInt8.ofNat x.k] ++ encH x).length = n1 at *
    generalize b ++ (UInt8.ofNat x.k :: (encH x ++ x.dat)) = res at *
    refine Tells.of (o := ⟨.ret, [(4, .sl o 0 res.length (g + 1)), (5, .int .i64 0)], upd (some (cmO x (.ro c p t)) :: ext) o (some ob2)⟩) ⟨0, ?_⟩ ⟨rfl, o, g + 1, ob2, rfl, rfl, ?_, hw2⟩
    · simp only [cmO, Cm.pay] at hA ⊢
      simp (maxSteps := 2000000) -implicitDefEqProofs [-getElem?_pos, List.getElem?_cons_zero, List.getElem?_cons_succ, exec, runOps, dstOk, wantedV, AM.step, evalT, evalO, evalArgs, evalParts, getF, putF, afterRegion, assignV, boxOf, newBox, hasIdsP, keepF, ofVal, ofCell, plen, pesz, callV, builtinV, lenV, binV, unV, arith, shiftI, loadV, storeV, putV, indexAddrV, live, upd, pget, pset, psetA, pagg, retag, retagP, byteAV, freezeP, freezeV, joinTags, joinTag, tags, ids, scalar, cellsLen, eqV, convV, faV, fvV, shiftBy, shiftRo, hA, assignV]
    · have : o < (some (cmO x (.ro c p t)) :: ext).length := (List.getElem?_eq_some_iff.1 ho).1
      simp only [upd]
      rw [List.getElem?_set_self this]
  · rw [if_neg h0]
    have h0b : (chkR x != 0) = true := by simpa using h0
    refine Tells.of (o := ⟨.ret, [(4, .sl 2 0 0 0), (5, .int .i64 (chkR x))], [some (cmO x (.ro c p t)), some nilB, some nilB]⟩) ⟨0, ?_⟩ ⟨rfl, 2, 0, nilB, rfl, rfl, rfl, nilB_rw⟩
    simp only [cmO, Cm.pay] at hC
    simp (maxSteps := 2000000) -implicitDefEqProofs [-getElem?_pos, List.getElem?_cons_zero, List.getElem?_cons_succ, exec, runOps, dstOk, wantedV, AM.step, evalT, evalO, evalArgs, evalParts, getF, putF, afterRegion, assignV, boxOf, newBox, hasIdsP, keepF, ofVal, ofCell, plen, pesz, callV, builtinV, lenV, binV, unV, arith, shiftI, loadV, storeV, putV, indexAddrV, live, upd, pget, pset, psetA, pagg, retag, retagP, byteAV, freezeP, freezeV, joinTags, joinTag, tags, ids, scalar, cellsLen, eqV, convV, faV, fvV, shiftBy, shiftRo, cmO, Cm.pay, hC, mk26, h0, h0b, assignV, emB]

theorem append_ev {H : AM.Heap} {a a2 : AV} {b : List UInt8} {x : Cm} (hx : CmOk x) (h : Byt H a b) (h2 : CmA H a2 x) (hb : b.length + x.txt.length + x.dat.length ≤ 10000000) :
    ∃ ob, Rw (.pb (appR b x).1) 0 ob ∧ evT X 7 [a, a2] H = some (.tup [.sl H.length 0 (appR b x).1.length 0, .int .i64 (appR b x).2], H ++ [some ob]) := by
  obtain ⟨c, p, ln, hp, hc, hl⟩ := args_cm (f := 7) (i := 1) h2 (args_nil 2)
  obtain ⟨cb, pb, xl, hpb, hcb, hx'⟩ := args_byt (C := X) (f := 7) (i := 0) rfl h hl
  obtain ⟨code, hcode, hr⟩ := append_code x c cb 2 p b hx hp hc hcb hb
  obtain ⟨ob, q1, q2⟩ := Ev1.newB (H := H) (n := (appR b x).1.length) (l := (appR b x).1) (rest := [.int .i64 (appR b x).2]) (evT_below X) Tryd.func7 hcode hx' (by simp [Cm.pay, idsL, ids, hp.ids, hpb.ids]) (by simp [gtag]) rfl rfl rfl (by
    obtain ⟨o, ⟨he, o1, g, ob, q1, q2, q3, q4⟩, hrun⟩ := hr
    exact ⟨o, ⟨he, o1, g, ob, by show some [getF o.fr 4, getF o.fr 5] = _; rw [q1, q2], q3, q4⟩, by rw [par7, coB hpb]; exact hrun⟩)
  exact ⟨ob, q1, evT_eq q2⟩

end Go.Proofs.YtmdciglfpedhgaaDoor
