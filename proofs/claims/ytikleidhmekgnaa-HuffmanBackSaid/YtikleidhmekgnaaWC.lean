/- Walks: what is told of both Writes, SameBytes, and the law HuffmanWrites. -/
import Derived.Test.YtikleidhmekgnaaWB
namespace Go.Proofs.Ytikleidhmekgnaa
open Go.AM
set_option linter.unusedSimpArgs false
set_option linter.unusedVariables false

/-- what Write tells: bytes, bits, an error -/
def writeR (l sy : List Int) : List UInt8 × Int × Int :=
  if (checkR l).2 = 0 then (if (writeL l (codesR l) sy 0 []).2.2 = true then ((writeL l (codesR l) sy 0 []).1, (writeL l (codesR l) sy 0 []).2.1, 0) else ([], 0, 2)) else ([], 0, (checkR l).2)
def rwriteR (l sy : List Int) : List UInt8 × Int × Int :=
  if (rcheckR l).2 = 0 then (if okL l sy = true then ((rwriteL l (rcodesR l) sy 0 []).1, (rwriteL l (rcodesR l) sy 0 []).2, 0) else ([], 0, 2)) else ([], 0, (rcheckR l).2)

def frB (b : List UInt8) : Option AM.Obj := some { p := .pb b, g := 0, cap := .none, z := if b.length ≤ 1 then 0 else 1, row := true, ids := false, tg := 0 }
def wrV (r : List UInt8 × Int × Int) : AV := .tup [.sl 0 0 r.1.length 0, .int .i64 r.2.1, .int .i64 r.2.2]

set_option maxRecDepth 100000 in
theorem write_bad (c c2 : Nat) (l sy : List Int) (h63 : l.length < 9223372036854775808) (he : (checkR l).2 ≠ 0) : ∃ code, Try.f11.body = some code ∧
    Run X T3 11 0 code [(0, .ro c (.pi .i64 l) 1), (1, .ro c2 (.pi .i64 sy) 2)] [] ⟨.ret, [(4, .sl 2 0 0 0), (5, .int .i64 0), (6, .int .i64 (checkR l).2)], [nilB, nilI, nilB]⟩ := by
  refine ⟨_, rfl, ?_⟩
  have hT := fun H => T3_bad (H := H) (a := .ro c (.pi .i64 l) 1) rfl h63 he
  have hb : ((checkR l).2 != 0) = true := by simpa using he
  refine ⟨0, ?_⟩
  simp -implicitDefEqProofs [-getElem?_pos, List.getElem?_cons_zero, List.getElem?_cons_succ, exec, runOps, dstOk, wantedV, AM.step, evalT, evalO, evalArgs, evalParts, getF, putF, afterRegion, assignV, boxOf, newBox, hasIdsP, keepF, ofVal, ofCell, plen, pesz, callV, builtinV, lenV, binV, unV, arith, shiftI, loadV, storeV, putV, indexAddrV, live, upd, pget, pset, psetA, pagg, retag, retagP, byteAV, freezeP, freezeV, joinTags, joinTag, tags, ids, scalar, cellsLen, eqV, convV, faV, fvV, shiftBy, shiftRo, hT, hb, he, rowOf, emptyRow, nilB]

set_option maxRecDepth 100000 in
theorem rwrite_bad (c c2 : Nat) (l sy : List Int) (h63 : l.length < 9223372036854775808) (he : (rcheckR l).2 ≠ 0) : ∃ code, Try.f12.body = some code ∧
    Run X T5 12 0 code [(0, .ro c (.pi .i64 l) 1), (1, .ro c2 (.pi .i64 sy) 2)] [] ⟨.ret, [(4, .sl 2 0 0 0), (5, .int .i64 0), (6, .int .i64 (rcheckR l).2)], [nilB, nilI, nilB]⟩ := by
  refine ⟨_, rfl, ?_⟩
  have hT := fun H => T5_bad (H := H) (a := .ro c (.pi .i64 l) 1) rfl h63 he
  have hb : ((rcheckR l).2 != 0) = true := by simpa using he
  refine ⟨0, ?_⟩
  simp -implicitDefEqProofs [-getElem?_pos, List.getElem?_cons_zero, List.getElem?_cons_succ, exec, runOps, dstOk, wantedV, AM.step, evalT, evalO, evalArgs, evalParts, getF, putF, afterRegion, assignV, boxOf, newBox, hasIdsP, keepF, ofVal, ofCell, plen, pesz, callV, builtinV, lenV, binV, unV, arith, shiftI, loadV, storeV, putV, indexAddrV, live, upd, pget, pset, psetA, pagg, retag, retagP, byteAV, freezeP, freezeV, joinTags, joinTag, tags, ids, scalar, cellsLen, eqV, convV, faV, fvV, shiftBy, shiftRo, hT, hb, he, rowOf, emptyRow, nilB]

theorem write_ev (c c2 : Nat) (l sy : List Int) (h63 : l.length < 9223372036854775808) (hsy : sy.length ≤ 400) : Ev1 X 11 [.ro c (.pi .i64 l) 1, .ro c2 (.pi .i64 sy) 2] [] (wrV (writeR l sy), [frB (writeR l sy).1]) := by
  by_cases he : (checkR l).2 = 0
  · obtain ⟨code, hb, hr⟩ := write_code c c2 l sy he hsy
    by_cases hw : (writeL l (codesR l) sy 0 []).2.2 = true
    · simp only [hw, if_true] at hr
      simp only [writeR, he, hw, if_true]
      have := Ev1.fresh (args := [.ro c (.pi .i64 l) 1, .ro c2 (.pi .i64 sy) 2]) (l := [.sl 0 0 (writeL l (codesR l) sy 0 []).1.length (writeL l (codesR l) sy 0 []).1.length, .int .i64 (writeL l (codesR l) sy 0 []).2.1, .int .i64 0]) (o := 0) (g := (writeL l (codesR l) sy 0 []).1.length) (H := [])
        (ob := ⟨.pb (writeL l (codesR l) sy 0 []).1, (writeL l (codesR l) sy 0 []).1.length, .none, (if (writeL l (codesR l) sy 0 []).1.length ≤ 1 then 0 else 1), true, false, 0⟩)
        T3_below Try.func11 hb rfl rfl (by simp [gtag]) hr (.inr rfl) rfl rfl rfl (by simp [live, obB]) rfl rfl rfl
      simpa [wrV, frB, AM.fresh, resultV, noTups, ren, renL] using this
    · simp only [hw, if_false] at hr
      simp only [writeR, he, hw, if_true, if_false]
      have := Ev1.fresh (args := [.ro c (.pi .i64 l) 1, .ro c2 (.pi .i64 sy) 2]) (l := [.sl 2 0 0 0, .int .i64 0, .int .i64 2]) (o := 2) (g := 0) (H := []) T3_below Try.func11 hb rfl rfl (by simp [gtag]) hr (.inr rfl) rfl rfl rfl rfl rfl rfl rfl
      exact this
  · obtain ⟨code, hb, hr⟩ := write_bad c c2 l sy h63 he
    simp only [writeR, he, if_false]
    have := Ev1.fresh (args := [.ro c (.pi .i64 l) 1, .ro c2 (.pi .i64 sy) 2]) (l := [.sl 2 0 0 0, .int .i64 0, .int .i64 (checkR l).2]) (o := 2) (g := 0) (H := []) T3_below Try.func11 hb rfl rfl (by simp [gtag]) hr (.inr rfl) rfl rfl rfl rfl rfl rfl rfl
    exact this

theorem rwrite_ev (c c2 : Nat) (l sy : List Int) (h63 : l.length < 9223372036854775808) (hsy : sy.length ≤ 400) : Ev1 X 12 [.ro c (.pi .i64 l) 1, .ro c2 (.pi .i64 sy) 2] [] (wrV (rwriteR l sy), [frB (rwriteR l sy).1]) := by
  by_cases he : (rcheckR l).2 = 0
  · obtain ⟨code, hb, hr⟩ := rwrite_code c c2 l sy he hsy
    by_cases hw : okL l sy = true
    · simp only [hw, if_true] at hr
      simp only [rwriteR, he, hw, if_true]
      have := Ev1.fresh (args := [.ro c (.pi .i64 l) 1, .ro c2 (.pi .i64 sy) 2]) (l := [.sl 2 0 (rwriteL l (rcodesR l) sy 0 []).1.length (rwriteL l (rcodesR l) sy 0 []).1.length, .int .i64 (rwriteL l (rcodesR l) sy 0 []).2, .int .i64 0]) (o := 2) (g := (rwriteL l (rcodesR l) sy 0 []).1.length) (H := [])
        (ob := ⟨.pb (rwriteL l (rcodesR l) sy 0 []).1, (rwriteL l (rcodesR l) sy 0 []).1.length, .none, (if (rwriteL l (rcodesR l) sy 0 []).1.length ≤ 1 then 0 else 1), true, false, 0⟩)
        T5_below Try.func12 hb rfl rfl (by simp [gtag]) hr (.inr rfl) rfl rfl rfl (by simp [live, obB]) rfl rfl rfl
      simpa [wrV, frB, AM.fresh, resultV, noTups, ren, renL] using this
    · simp only [hw, if_false] at hr
      simp only [rwriteR, he, hw, if_true, if_false]
      have := Ev1.fresh (args := [.ro c (.pi .i64 l) 1, .ro c2 (.pi .i64 sy) 2]) (l := [.sl 2 0 0 0, .int .i64 0, .int .i64 2]) (o := 2) (g := 0) (H := []) T5_below Try.func12 hb rfl rfl (by simp [gtag]) hr (.inr rfl) rfl rfl rfl rfl rfl rfl rfl
      exact this
  · obtain ⟨code, hb, hr⟩ := rwrite_bad c c2 l sy h63 he
    simp only [rwriteR, he, if_false]
    have := Ev1.fresh (args := [.ro c (.pi .i64 l) 1, .ro c2 (.pi .i64 sy) 2]) (l := [.sl 2 0 0 0, .int .i64 0, .int .i64 (rcheckR l).2]) (o := 2) (g := 0) (H := []) T5_below Try.func12 hb rfl rfl (by simp [gtag]) hr (.inr rfl) rfl rfl rfl rfl rfl rfl rfl
    exact this

set_option maxRecDepth 100000 in
theorem sameB_ev (c c2 : Nat) (a b : List UInt8) : Ev1 X 13 [.ro c (.pb a) 1, .ro c2 (.pb b) 2] [] (.bool (a == b), []) := by
  have hr : ∃ code, Try.f13.body = some code ∧ Run X (fun _ _ _ => .none) 13 0 code [(0, .ro c (.pb a) 1), (1, .ro c2 (.pb b) 2)] [] ⟨.ret, [(4, .bool (a == b))], []⟩ := by
    refine ⟨_, rfl, 0, ?_⟩
    simp -implicitDefEqProofs [-getElem?_pos, List.getElem?_cons_zero, List.getElem?_cons_succ, exec, runOps, dstOk, wantedV, AM.step, evalT, evalO, evalArgs, evalParts, getF, putF, afterRegion, assignV, boxOf, newBox, hasIdsP, keepF, ofVal, ofCell, plen, pesz, callV, builtinV, lenV, binV, unV, arith, shiftI, loadV, storeV, putV, indexAddrV, live, upd, pget, pset, psetA, pagg, retag, retagP, byteAV, freezeP, freezeV, joinTags, joinTag, tags, ids, scalar, cellsLen, eqV, convV, faV, fvV, shiftBy, shiftRo, readSl, strOp]
  obtain ⟨code, hb, hr⟩ := hr
  exact Ev1.plain (l := [.bool (a == b)]) Below.none Try.func13 hb rfl rfl (by simp [gtag]) hr (.inr rfl) rfl rfl rfl

def livesRow : Row1 := ⟨10, [], .bool true, []⟩
set_option maxRecDepth 100000 in
theorem lives_ok : RowsOk X [livesRow] := RowsOk.cons Below.none RowsOk.nil (n := 200) (by kernel_rfl)

def S6 (f : Nat) (xs : List AV) : Option (AV × AM.Heap) :=
  match f, xs with
  | 10, [] => some (.bool true, [])
  | 11, [.ro _ (.pi .i64 l) 1, .ro _ (.pi .i64 sy) 2] => if l.length < 9223372036854775808 ∧ sy.length ≤ 400 then some (wrV (writeR l sy), [frB (writeR l sy).1]) else .none
  | 12, [.ro _ (.pi .i64 l) 1, .ro _ (.pi .i64 sy) 2] => if l.length < 9223372036854775808 ∧ sy.length ≤ 400 then some (wrV (rwriteR l sy), [frB (rwriteR l sy).1]) else .none
  | 13, [.ro _ (.pb a) 1, .ro _ (.pb b) 2] => some (.bool (a == b), [])
  | _, _ => .none

theorem S6_ok : ∀ f xs v N, S6 f xs = some (v, N) → Ev1 X f xs [] (v, N) := by
  intro f xs v N h
  unfold S6 at h
  split at h
  · simp only [Option.some.injEq, Prod.mk.injEq] at h
    obtain ⟨rfl, rfl⟩ := h
    exact (lives_ok livesRow (by simp)).1
  · split at h
    · rename_i hl
      simp only [Option.some.injEq, Prod.mk.injEq] at h
      obtain ⟨rfl, rfl⟩ := h
      exact write_ev _ _ _ _ hl.1 hl.2
    · cases h
  · split at h
    · rename_i hl
      simp only [Option.some.injEq, Prod.mk.injEq] at h
      obtain ⟨rfl, rfl⟩ := h
      exact rwrite_ev _ _ _ _ hl.1 hl.2
    · cases h
  · simp only [Option.some.injEq, Prod.mk.injEq] at h
    obtain ⟨rfl, rfl⟩ := h
    exact sameB_ev _ _ _ _
  · cases h

noncomputable def T6 : Cf := lentT X S6
theorem T6_below : Below X T6 := lentT_below S6_ok

end Go.Proofs.Ytikleidhmekgnaa
