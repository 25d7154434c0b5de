/- Walks: the law HuffmanCalls. -/
import Derived.Test.YtikleidhmekgnaaWY
import Derived.Test.YtikleidhmekgnaaWD
namespace Go.Proofs.Ytikleidhmekgnaa
open Go.AM
set_option linter.unusedSimpArgs false
set_option linter.unusedVariables false

theorem evL {f : Nat} {args ls : List AV} {H : AM.Heap} {v : AV} {N : AM.Heap} (h : Ev1 X f ls [] (v, N)) (hl : ∃ xs, lendArgs X f H 0 args = some (ls, xs)) (hi : idsL ls = []) (hcv : cleanV v = true) (hcN : cleanH N = true) :
    evT X f args H = some (shiftV H.length v, H ++ shiftH H.length N) := by
  obtain ⟨xs, hl⟩ := hl
  exact evT_eq (Ev1.lent h hl hi hcv hcN)

section
variable {H : AM.Heap} {a a2 : AV} {l l2 : List Int} {b b2 : List UInt8}

theorem E_lives (H : AM.Heap) : evT X 10 [] H = some (.bool true, H) := evT_eq (T6_below _ _ _ _ (T6_lives H))

theorem E_check (h : payOf H a = some (.pi .i64 l)) (h63 : l.length < 9223372036854775808) : evT X 8 [a] H = some (.tup [.bool (rcheckR l).1, .int .i64 (rcheckR l).2], H) := by
  have := evT_eq (T2_below _ _ _ _ (T2_check h h63))
  unfold ckV at this
  rwa [check_eq] at this

theorem E_rcheck (h : payOf H a = some (.pi .i64 l)) (h63 : l.length < 9223372036854775808) : evT X 15 [a] H = some (.tup [.bool (rcheckR l).1, .int .i64 (rcheckR l).2], H) := by
  have := evT_eq (T4_below _ _ _ _ (T4_check h h63))
  unfold rckV at this
  exact this

theorem coO_clean (l : List Int) : cleanH [coO l] = true ∧ ∀ d, shiftH d [coO l] = [coO l] := by
  unfold coO
  split
  · exact ⟨rfl, fun _ => rfl⟩
  · exact ⟨rfl, fun _ => rfl⟩

theorem E_codes (h : payOf H a = some (.pi .i64 l)) (h63 : l.length < 9223372036854775808) : evT X 14 [a] H = some (.tup [.sl H.length 0 (coR l).length 0, .int .i64 (rcheckR l).2], H ++ [coO l]) := by
  obtain ⟨c, x, hx⟩ := args_pay (C := X) (f := 14) (i := 0) rfl h (args_nil 1)
  have := evL (co_ev c l h63) ⟨_, hx⟩ rfl rfl (coO_clean l).1
  rw [(coO_clean l).2] at this
  simpa [coV, shiftV, ren, renL, shiftN] using this

theorem E_rcodes (h : payOf H a = some (.pi .i64 l)) (h63 : l.length < 9223372036854775808) : evT X 16 [a] H = some (.tup [.sl H.length 0 (coR l).length 0, .int .i64 (rcheckR l).2], H ++ [coO l]) := by
  obtain ⟨c, x, hx⟩ := args_pay (C := X) (f := 16) (i := 0) rfl h (args_nil 1)
  have := evL (rco_ev c l h63) ⟨_, hx⟩ rfl rfl (coO_clean l).1
  rw [(coO_clean l).2] at this
  simpa [coV, shiftV, ren, renL, shiftN] using this

theorem coO_pay (l : List Int) {o : Nat} (h : H[o]? = some (coO l)) : payOf H (.sl o 0 (coR l).length 0) = some (.pi .i64 (coR l)) := by
  unfold coO at h
  unfold coR
  split at h
  · rename_i he
    rw [if_pos he]
    simp [payOf, live, h, rowI, psub]
  · rename_i he
    rw [if_neg he]
    simp [payOf, live, h, nilI, psub]

theorem alO_pay (l : List Int) {o : Nat} (h : H[o]? = some (alO l)) : payOf H (.sl o 0 l.length 0) = some (.pi .i64 l) := by
  simp [payOf, live, h, alO, psub]

theorem E_sameI (h : payOf H a = some (.pi .i64 l)) (h2 : payOf H a2 = some (.pi .i64 l2)) (h63 : l.length < 9223372036854775808) : evT X 17 [a, a2] H = some (.bool (l == l2), H) := by
  obtain ⟨c2, x2, hx2⟩ := args_pay (C := X) (f := 17) (i := 1) rfl h2 (args_nil 2)
  obtain ⟨c, x, hx⟩ := args_pay (C := X) (f := 17) (i := 0) rfl h hx2
  have := evL (sameI_ev c c2 l l2 h63) ⟨_, hx⟩ rfl rfl rfl
  simpa [shiftV, ren, shiftH] using this

theorem E_sameB (h : payOf H a = some (.pb b)) (h2 : payOf H a2 = some (.pb b2)) : evT X 13 [a, a2] H = some (.bool (b == b2), H) :=
  evT_eq (T6_below _ _ _ _ (T6_same h h2))

theorem E_read (h : payOf H a = some (.pi .i64 l)) (h2 : payOf H a2 = some (.pb b)) {x : Int} (h63 : l.length < 9223372036854775808) (hb : b.length ≤ 100000) (hx : x < 9223372036854775808) : evT X 9 [a, a2, .int .i64 x] H = some (t3 (rreadR l b x), H) := by
  have hx3 := args_flat (C := X) (f := 9) (i := 2) (a := .int .i64 x) (H := H) rfl rfl (args_nil 3)
  obtain ⟨c2, x2, hx2⟩ := args_pay (C := X) (f := 9) (i := 1) rfl h2 hx3
  obtain ⟨c, x1, hx1⟩ := args_pay (C := X) (f := 9) (i := 0) rfl h hx2
  have := evL (read_ev c c2 l b x h63 hb hx) ⟨_, hx1⟩ rfl rfl rfl
  simpa [t3, shiftV, ren, renL, shiftH] using this

theorem E_rread (h : payOf H a = some (.pi .i64 l)) (h2 : payOf H a2 = some (.pb b)) {x : Int} (h63 : l.length < 9223372036854775808) (hb : b.length ≤ 100000) (hx : x < 9223372036854775808) : evT X 18 [a, a2, .int .i64 x] H = some (t3 (rreadR l b x), H) := by
  have hx3 := args_flat (C := X) (f := 18) (i := 2) (a := .int .i64 x) (H := H) rfl rfl (args_nil 3)
  obtain ⟨c2, x2, hx2⟩ := args_pay (C := X) (f := 18) (i := 1) rfl h2 hx3
  obtain ⟨c, x1, hx1⟩ := args_pay (C := X) (f := 18) (i := 0) rfl h hx2
  have := evL (rread_ev c c2 l b x h63 hb hx) ⟨_, hx1⟩ rfl rfl rfl
  simpa [t3, shiftV, ren, renL, shiftH] using this

theorem E_all (h : payOf H a = some (.pi .i64 l)) (h2 : payOf H a2 = some (.pb b)) {x : Int} (h63 : l.length < 9223372036854775808) (hb : b.length ≤ 100000) (hx : x ≤ 100000) :
    evT X 19 [a, a2, .int .i64 x] H = some (.tup [.sl H.length 0 (rallR l b x).1.length 0, .int .i64 (rallR l b x).2.1, .int .i64 (rallR l b x).2.2], H ++ [alO (rallR l b x).1]) := by
  have hx3 := args_flat (C := X) (f := 19) (i := 2) (a := .int .i64 x) (H := H) rfl rfl (args_nil 3)
  obtain ⟨c2, x2, hx2⟩ := args_pay (C := X) (f := 19) (i := 1) rfl h2 hx3
  obtain ⟨c, x1, hx1⟩ := args_pay (C := X) (f := 19) (i := 0) rfl h hx2
  have := evL (all_ev c c2 l b x h63 hb hx) ⟨_, hx1⟩ rfl rfl rfl
  simpa [alV, alO, shiftV, ren, renL, shiftH, shiftN, renObj] using this

theorem E_rall (h : payOf H a = some (.pi .i64 l)) (h2 : payOf H a2 = some (.pb b)) {x : Int} (h63 : l.length < 9223372036854775808) (hb : b.length ≤ 100000) (hx : x ≤ 100000) :
    evT X 20 [a, a2, .int .i64 x] H = some (.tup [.sl H.length 0 (rallR l b x).1.length 0, .int .i64 (rallR l b x).2.1, .int .i64 (rallR l b x).2.2], H ++ [alO (rallR l b x).1]) := by
  have hx3 := args_flat (C := X) (f := 20) (i := 2) (a := .int .i64 x) (H := H) rfl rfl (args_nil 3)
  obtain ⟨c2, x2, hx2⟩ := args_pay (C := X) (f := 20) (i := 1) rfl h2 hx3
  obtain ⟨c, x1, hx1⟩ := args_pay (C := X) (f := 20) (i := 0) rfl h hx2
  have := evL (rall_ev c c2 l b x h63 hb hx) ⟨_, hx1⟩ rfl rfl rfl
  simpa [alV, alO, shiftV, ren, renL, shiftH, shiftN, renObj] using this

end

theorem bsE (H : AM.Heap) : buildSliceV X H 25 0 [] = some (.ro 1 (.pi .i64 []) 0, H) := by kernel_rfl

def ownO (l : List Int) : Option AM.Obj := some { p := .pi .i64 l, g := 0, cap := .none, z := 1, row := true, ids := false, tg := 0 }

theorem app_own (H : AM.Heap) (c : Nat) (l : List Int) (h : l.length ≤ 100000) : appendV X H 25 (.ro 1 (.pi .i64 []) 0) (.ro c (.pi .i64 l) 1) = some (.sl H.length 0 l.length 0, H ++ [ownO l]) := by
  have hroom : roomOk X 3 l.length = true := by
    simp [roomOk]
    omega
  simp only [appendV, und25, size3, zok3]
  simp [srcV, payB, plen, papp, pesz, ptag, hroom, emptyRow, ownO]

theorem rallL_len (l codes : List Int) (b : List UInt8) : ∀ (k : Nat) (out : List Int) (a : Nat), (rallL l codes b k out a).1.length ≤ out.length + k
  | 0, out, a => by simp [rallL]
  | k + 1, out, a => by
    unfold rallL
    split
    · have := rallL_len l codes b k (out ++ [(decR l codes b a).1]) (a + (decR l codes b a).2.1.toNat)
      simp only [List.length_append, List.length_cons, List.length_nil] at this
      omega
    · simp

theorem rallR_len (l : List Int) (b : List UInt8) (n : Int) : (rallR l b n).1.length ≤ n.toNat := by
  unfold rallR
  split
  · split
    · simp
    · have := rallL_len l (rcodesR l) b n.toNat [] 0
      simpa using this
  · simp

set_option maxRecDepth 100000 in
theorem calls_code (c c2 : Nat) (l : List Int) (b : List UInt8) (a : Int) (ha : a < 9223372036854775808) : ∃ code, Try.f6.body = some code ∧ ∃ H,
    Run X (evT X) 6 0 code [(0, .ro c (.pi .i64 l) 1), (1, .ro c2 (.pb b) 2), (2, .int .i64 a)] [] ⟨.ret, [(6, .bool true)], H⟩ := by
  refine ⟨_, rfl, ?_⟩
  have hL := E_lives
  by_cases h1 : 400 < (l.length : Int)
  · refine ⟨[], 0, ?_⟩
    simp -implicitDefEqProofs [-getElem?_pos, List.getElem?_cons_zero, List.getElem?_cons_succ, exec, runOps, dstOk, wantedV, AM.step, evalT, evalO, evalArgs, evalParts, getF, putF, afterRegion, assignV, boxOf, newBox, hasIdsP, keepF, ofVal, ofCell, plen, pesz, callV, builtinV, lenV, binV, unV, arith, shiftI, loadV, storeV, putV, indexAddrV, live, upd, pget, pset, psetA, pagg, retag, retagP, byteAV, freezeP, freezeV, joinTags, joinTag, tags, ids, scalar, cellsLen, eqV, convV, faV, fvV, shiftBy, shiftRo, hL, h1]
  by_cases h2 : 400 < (b.length : Int)
  · refine ⟨[], 0, ?_⟩
    simp -implicitDefEqProofs [-getElem?_pos, List.getElem?_cons_zero, List.getElem?_cons_succ, exec, runOps, dstOk, wantedV, AM.step, evalT, evalO, evalArgs, evalParts, getF, putF, afterRegion, assignV, boxOf, newBox, hasIdsP, keepF, ofVal, ofCell, plen, pesz, callV, builtinV, lenV, binV, unV, arith, shiftI, loadV, storeV, putV, indexAddrV, live, upd, pget, pset, psetA, pagg, retag, retagP, byteAV, freezeP, freezeV, joinTags, joinTag, tags, ids, scalar, cellsLen, eqV, convV, faV, fvV, shiftBy, shiftRo, hL, h1, h2]
  have hap := app_own [] c l (by omega)
  have hC := E_check (H := [ownO l]) (a := .sl 0 0 l.length 0) (l := l) (by simp [payOf, live, ownO, psub]) (by omega)
  have hC2 := E_rcheck (H := [ownO l]) (a := .ro c (.pi .i64 l) 1) (l := l) rfl (by omega)
  have hD := E_codes (H := [ownO l]) (a := .sl 0 0 l.length 0) (l := l) (by simp [payOf, live, ownO, psub]) (by omega)
  have hD2 := E_rcodes (H := [ownO l, coO l]) (a := .ro c (.pi .i64 l) 1) (l := l) rfl (by omega)
  have hS1 := E_sameI (H := [ownO l, coO l, coO l]) (a := .sl 1 0 (coR l).length 0) (a2 := .sl 2 0 (coR l).length 0) (coO_pay l rfl) (coO_pay l rfl) (by unfold coR; split <;> simp [rcodesR_len]; omega)
  have hS2 := E_sameI (H := [ownO l, coO l, coO l]) (a := .sl 0 0 l.length 0) (a2 := .ro c (.pi .i64 l) 1) (l := l) (l2 := l) (by simp [payOf, live, ownO, psub]) rfl (by omega)
  have hR := E_read (H := [ownO l, coO l, coO l]) (a := .sl 0 0 l.length 0) (a2 := .ro c2 (.pb b) 2) (l := l) (b := b) (x := a) (by simp [payOf, live, ownO, psub]) rfl (by omega) (by omega) ha
  have hR2 := E_rread (H := [ownO l, coO l, coO l]) (a := .ro c (.pi .i64 l) 1) (a2 := .ro c2 (.pb b) 2) (l := l) (b := b) (x := a) rfl rfl (by omega) (by omega) ha
  obtain ⟨k, hk⟩ : ∃ k, (if 500 < a then 500 else a) = k := ⟨_, rfl⟩
  have hk5 : k ≤ 100000 := by rw [← hk]; split <;> omega
  have hA := E_all (H := [ownO l, coO l, coO l]) (a := .sl 0 0 l.length 0) (a2 := .ro c2 (.pb b) 2) (l := l) (b := b) (x := k) (by simp [payOf, live, ownO, psub]) rfl (by omega) (by omega) hk5
  have hA2 := E_rall (H := [ownO l, coO l, coO l, alO (rallR l b k).1]) (a := .ro c (.pi .i64 l) 1) (a2 := .ro c2 (.pb b) 2) (l := l) (b := b) (x := k) rfl rfl (by omega) (by omega) hk5
  have hle := rallR_len l b k
  generalize rallR l b k = r at *
  have hS3 := E_sameI (H := [ownO l, coO l, coO l, alO r.1, alO r.1]) (a := .sl 3 0 r.1.length 0) (a2 := .sl 4 0 r.1.length 0) (alO_pay r.1 rfl) (alO_pay r.1 rfl) (by omega)
  generalize rreadR l b a = q at *
  unfold t3 at hR hR2
  simp only [beq_self_eq_true] at hS1 hS2 hS3
  generalize coR l = cr at *
  generalize coO l = co at *
  generalize alO r.1 = ro at *
  generalize ownO l = oo at *
  generalize rcheckR l = ck at *
  simp only [List.nil_append, List.length_nil, List.length_cons, List.cons_append, Nat.zero_add, Nat.reduceAdd] at hap hC hC2 hD hD2 hA hA2
  refine ⟨[oo, co, co, ro, ro], ?_⟩
  apply Run.seq
  · (refine ⟨0, ?_⟩; conv => lhs; simp -implicitDefEqProofs [-getElem?_pos, List.getElem?_cons_zero, List.getElem?_cons_succ, exec, runOps, dstOk, wantedV, AM.step, evalT, evalO, evalArgs, evalParts, getF, putF, afterRegion, assignV, boxOf, newBox, hasIdsP, keepF, ofVal, ofCell, plen, pesz, callV, builtinV, lenV, binV, unV, arith, shiftI, loadV, storeV, putV, indexAddrV, live, upd, pget, pset, psetA, pagg, retag, retagP, byteAV, freezeP, freezeV, joinTags, joinTag, tags, ids, scalar, cellsLen, eqV, convV, faV, fvV, shiftBy, shiftRo])
  apply Run.seq
  · (refine ⟨0, ?_⟩; conv => lhs; simp -implicitDefEqProofs [-getElem?_pos, List.getElem?_cons_zero, List.getElem?_cons_succ, exec, runOps, dstOk, wantedV, AM.step, evalT, evalO, evalArgs, evalParts, getF, putF, afterRegion, assignV, boxOf, newBox, hasIdsP, keepF, ofVal, ofCell, plen, pesz, callV, builtinV, lenV, binV, unV, arith, shiftI, loadV, storeV, putV, indexAddrV, live, upd, pget, pset, psetA, pagg, retag, retagP, byteAV, freezeP, freezeV, joinTags, joinTag, tags, ids, scalar, cellsLen, eqV, convV, faV, fvV, shiftBy, shiftRo, hL])
  apply Run.seq
  · (refine ⟨0, ?_⟩; conv => lhs; simp -implicitDefEqProofs [-getElem?_pos, List.getElem?_cons_zero, List.getElem?_cons_succ, exec, runOps, dstOk, wantedV, AM.step, evalT, evalO, evalArgs, evalParts, getF, putF, afterRegion, assignV, boxOf, newBox, hasIdsP, keepF, ofVal, ofCell, plen, pesz, callV, builtinV, lenV, binV, unV, arith, shiftI, loadV, storeV, putV, indexAddrV, live, upd, pget, pset, psetA, pagg, retag, retagP, byteAV, freezeP, freezeV, joinTags, joinTag, tags, ids, scalar, cellsLen, eqV, convV, faV, fvV, shiftBy, shiftRo, h1, h2])
  apply Run.seq
  · (refine ⟨0, ?_⟩; conv => lhs; simp -implicitDefEqProofs [-getElem?_pos, List.getElem?_cons_zero, List.getElem?_cons_succ, exec, runOps, dstOk, wantedV, AM.step, evalT, evalO, evalArgs, evalParts, getF, putF, afterRegion, assignV, boxOf, newBox, hasIdsP, keepF, ofVal, ofCell, plen, pesz, callV, builtinV, lenV, binV, unV, arith, shiftI, loadV, storeV, putV, indexAddrV, live, upd, pget, pset, psetA, pagg, retag, retagP, byteAV, freezeP, freezeV, joinTags, joinTag, tags, ids, scalar, cellsLen, eqV, convV, faV, fvV, shiftBy, shiftRo, bsE, hap])
  apply Run.seq
  · (refine ⟨0, ?_⟩; conv => lhs; simp -implicitDefEqProofs [-getElem?_pos, List.getElem?_cons_zero, List.getElem?_cons_succ, exec, runOps, dstOk, wantedV, AM.step, evalT, evalO, evalArgs, evalParts, getF, putF, afterRegion, assignV, boxOf, newBox, hasIdsP, keepF, ofVal, ofCell, plen, pesz, callV, builtinV, lenV, binV, unV, arith, shiftI, loadV, storeV, putV, indexAddrV, live, upd, pget, pset, psetA, pagg, retag, retagP, byteAV, freezeP, freezeV, joinTags, joinTag, tags, ids, scalar, cellsLen, eqV, convV, faV, fvV, shiftBy, shiftRo, hC])
  apply Run.seq
  · (refine ⟨0, ?_⟩; conv => lhs; simp -implicitDefEqProofs [-getElem?_pos, List.getElem?_cons_zero, List.getElem?_cons_succ, exec, runOps, dstOk, wantedV, AM.step, evalT, evalO, evalArgs, evalParts, getF, putF, afterRegion, assignV, boxOf, newBox, hasIdsP, keepF, ofVal, ofCell, plen, pesz, callV, builtinV, lenV, binV, unV, arith, shiftI, loadV, storeV, putV, indexAddrV, live, upd, pget, pset, psetA, pagg, retag, retagP, byteAV, freezeP, freezeV, joinTags, joinTag, tags, ids, scalar, cellsLen, eqV, convV, faV, fvV, shiftBy, shiftRo, hC2])
  apply Run.seq
  · (refine ⟨0, ?_⟩; conv => lhs; simp -implicitDefEqProofs [-getElem?_pos, List.getElem?_cons_zero, List.getElem?_cons_succ, exec, runOps, dstOk, wantedV, AM.step, evalT, evalO, evalArgs, evalParts, getF, putF, afterRegion, assignV, boxOf, newBox, hasIdsP, keepF, ofVal, ofCell, plen, pesz, callV, builtinV, lenV, binV, unV, arith, shiftI, loadV, storeV, putV, indexAddrV, live, upd, pget, pset, psetA, pagg, retag, retagP, byteAV, freezeP, freezeV, joinTags, joinTag, tags, ids, scalar, cellsLen, eqV, convV, faV, fvV, shiftBy, shiftRo, hD])
  apply Run.seq
  · (refine ⟨0, ?_⟩; conv => lhs; simp -implicitDefEqProofs [-getElem?_pos, List.getElem?_cons_zero, List.getElem?_cons_succ, exec, runOps, dstOk, wantedV, AM.step, evalT, evalO, evalArgs, evalParts, getF, putF, afterRegion, assignV, boxOf, newBox, hasIdsP, keepF, ofVal, ofCell, plen, pesz, callV, builtinV, lenV, binV, unV, arith, shiftI, loadV, storeV, putV, indexAddrV, live, upd, pget, pset, psetA, pagg, retag, retagP, byteAV, freezeP, freezeV, joinTags, joinTag, tags, ids, scalar, cellsLen, eqV, convV, faV, fvV, shiftBy, shiftRo, hD2])
  apply Run.seq
  · (refine ⟨0, ?_⟩; conv => lhs; simp -implicitDefEqProofs [-getElem?_pos, List.getElem?_cons_zero, List.getElem?_cons_succ, exec, runOps, dstOk, wantedV, AM.step, evalT, evalO, evalArgs, evalParts, getF, putF, afterRegion, assignV, boxOf, newBox, hasIdsP, keepF, ofVal, ofCell, plen, pesz, callV, builtinV, lenV, binV, unV, arith, shiftI, loadV, storeV, putV, indexAddrV, live, upd, pget, pset, psetA, pagg, retag, retagP, byteAV, freezeP, freezeV, joinTags, joinTag, tags, ids, scalar, cellsLen, eqV, convV, faV, fvV, shiftBy, shiftRo, hS1, hS2])
  apply Run.seq
  · (refine ⟨0, ?_⟩; conv => lhs; simp -implicitDefEqProofs [-getElem?_pos, List.getElem?_cons_zero, List.getElem?_cons_succ, exec, runOps, dstOk, wantedV, AM.step, evalT, evalO, evalArgs, evalParts, getF, putF, afterRegion, assignV, boxOf, newBox, hasIdsP, keepF, ofVal, ofCell, plen, pesz, callV, builtinV, lenV, binV, unV, arith, shiftI, loadV, storeV, putV, indexAddrV, live, upd, pget, pset, psetA, pagg, retag, retagP, byteAV, freezeP, freezeV, joinTags, joinTag, tags, ids, scalar, cellsLen, eqV, convV, faV, fvV, shiftBy, shiftRo, hR])
  apply Run.seq
  · (refine ⟨0, ?_⟩; conv => lhs; simp -implicitDefEqProofs [-getElem?_pos, List.getElem?_cons_zero, List.getElem?_cons_succ, exec, runOps, dstOk, wantedV, AM.step, evalT, evalO, evalArgs, evalParts, getF, putF, afterRegion, assignV, boxOf, newBox, hasIdsP, keepF, ofVal, ofCell, plen, pesz, callV, builtinV, lenV, binV, unV, arith, shiftI, loadV, storeV, putV, indexAddrV, live, upd, pget, pset, psetA, pagg, retag, retagP, byteAV, freezeP, freezeV, joinTags, joinTag, tags, ids, scalar, cellsLen, eqV, convV, faV, fvV, shiftBy, shiftRo, hR2])
  apply Run.seq
  · (refine ⟨0, ?_⟩; conv => lhs; simp -implicitDefEqProofs [-getElem?_pos, List.getElem?_cons_zero, List.getElem?_cons_succ, exec, runOps, dstOk, wantedV, AM.step, evalT, evalO, evalArgs, evalParts, getF, putF, afterRegion, assignV, boxOf, newBox, hasIdsP, keepF, ofVal, ofCell, plen, pesz, callV, builtinV, lenV, binV, unV, arith, shiftI, loadV, storeV, putV, indexAddrV, live, upd, pget, pset, psetA, pagg, retag, retagP, byteAV, freezeP, freezeV, joinTags, joinTag, tags, ids, scalar, cellsLen, eqV, convV, faV, fvV, shiftBy, shiftRo])
  apply Run.seq
  · (refine ⟨0, ?_⟩; conv => lhs; simp -implicitDefEqProofs [-getElem?_pos, List.getElem?_cons_zero, List.getElem?_cons_succ, exec, runOps, dstOk, wantedV, AM.step, evalT, evalO, evalArgs, evalParts, getF, putF, afterRegion, assignV, boxOf, newBox, hasIdsP, keepF, ofVal, ofCell, plen, pesz, callV, builtinV, lenV, binV, unV, arith, shiftI, loadV, storeV, putV, indexAddrV, live, upd, pget, pset, psetA, pagg, retag, retagP, byteAV, freezeP, freezeV, joinTags, joinTag, tags, ids, scalar, cellsLen, eqV, convV, faV, fvV, shiftBy, shiftRo, minmax, hk])
  apply Run.seq
  · (refine ⟨0, ?_⟩; conv => lhs; simp -implicitDefEqProofs [-getElem?_pos, List.getElem?_cons_zero, List.getElem?_cons_succ, exec, runOps, dstOk, wantedV, AM.step, evalT, evalO, evalArgs, evalParts, getF, putF, afterRegion, assignV, boxOf, newBox, hasIdsP, keepF, ofVal, ofCell, plen, pesz, callV, builtinV, lenV, binV, unV, arith, shiftI, loadV, storeV, putV, indexAddrV, live, upd, pget, pset, psetA, pagg, retag, retagP, byteAV, freezeP, freezeV, joinTags, joinTag, tags, ids, scalar, cellsLen, eqV, convV, faV, fvV, shiftBy, shiftRo, hA])
  apply Run.seq
  · (refine ⟨0, ?_⟩; conv => lhs; simp -implicitDefEqProofs [-getElem?_pos, List.getElem?_cons_zero, List.getElem?_cons_succ, exec, runOps, dstOk, wantedV, AM.step, evalT, evalO, evalArgs, evalParts, getF, putF, afterRegion, assignV, boxOf, newBox, hasIdsP, keepF, ofVal, ofCell, plen, pesz, callV, builtinV, lenV, binV, unV, arith, shiftI, loadV, storeV, putV, indexAddrV, live, upd, pget, pset, psetA, pagg, retag, retagP, byteAV, freezeP, freezeV, joinTags, joinTag, tags, ids, scalar, cellsLen, eqV, convV, faV, fvV, shiftBy, shiftRo, hA2])
  refine ⟨0, ?_⟩
  simp -implicitDefEqProofs [-getElem?_pos, List.getElem?_cons_zero, List.getElem?_cons_succ, exec, runOps, dstOk, wantedV, AM.step, evalT, evalO, evalArgs, evalParts, getF, putF, afterRegion, assignV, boxOf, newBox, hasIdsP, keepF, ofVal, ofCell, plen, pesz, callV, builtinV, lenV, binV, unV, arith, shiftI, loadV, storeV, putV, indexAddrV, live, upd, pget, pset, psetA, pagg, retag, retagP, byteAV, freezeP, freezeV, joinTags, joinTag, tags, ids, scalar, cellsLen, eqV, convV, faV, fvV, shiftBy, shiftRo, hS3]

theorem calls_ev (c c2 : Nat) (l : List Int) (b : List UInt8) (a : Int) (ha : a < 9223372036854775808) : Ev1 X 6 [.ro c (.pi .i64 l) 1, .ro c2 (.pb b) 1, .int .i64 a] [] (.bool true, []) := by
  obtain ⟨code, hb, H, hr⟩ := calls_code c c2 l b a ha
  exact Ev1.plain (args := [.ro c (.pi .i64 l) 1, .ro c2 (.pb b) 1, .int .i64 a]) (l := [.bool true]) (evT_below X) Try.func6 hb rfl rfl (by simp [gtag]) hr (.inr rfl) rfl rfl rfl

end Go.Proofs.Ytikleidhmekgnaa
