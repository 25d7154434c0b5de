/- Walks: what is told of the document's Read, of both All, and of both Codes. -/
import Derived.Test.YtikleidhmekgnaaWX
namespace Go.Proofs.Ytikleidhmekgnaa
open Go.AM
set_option linter.unusedSimpArgs false
set_option linter.unusedVariables false

theorem rread_ev (c c2 : Nat) (l : List Int) (b : List UInt8) (a : Int) (h63 : l.length < 9223372036854775808) (hb : b.length ≤ 100000) (ha : a < 9223372036854775808) :
    Ev1 X 18 [.ro c (.pi .i64 l) 1, .ro c2 (.pb b) 2, .int .i64 a] [] (t3 (rreadR l b a), []) := by
  obtain ⟨code, hbo, H, hr⟩ := rread_code c c2 l b a h63 hb ha
  exact Ev1.plain (l := [.int .i64 (rreadR l b a).1, .int .i64 (rreadR l b a).2.1, .int .i64 (rreadR l b a).2.2]) T8_below Try.func18 hbo rfl rfl (by simp [gtag]) hr (.inr rfl) rfl rfl rfl

/-- what All tells -/
def alV (r : List Int × Int × Int) : AV := .tup [.sl 0 0 r.1.length 0, .int .i64 r.2.1, .int .i64 r.2.2]
def alO (l : List Int) : Option AM.Obj := some { p := .pi .i64 l, g := 0, cap := .none, z := if l.length ≤ 1 then 0 else 1, row := true, ids := false, tg := 0 }

theorem al_fresh {T : Cf} (hT : Below X T) {f : Nat} {fn : Func} {code : Code} {c c2 : Nat} {l : List Int} {b : List UInt8} {n : Int} (hF : X.P.funcs[f]? = some fn) (hb : fn.body = some code)
    (hl : ∃ lents, lendArgs X f [] 0 [.ro c (.pi .i64 l) 1, .ro c2 (.pb b) 2, .int .i64 n] = some ([.ro c (.pi .i64 l) 1, .ro c2 (.pb b) 2, .int .i64 n], lents))
    (hnum : numbered 0 (coerce X [.ro c (.pi .i64 l) 1, .ro c2 (.pb b) 2, .int .i64 n] (paramsOf X f)) = [(0, .ro c (.pi .i64 l) 1), (1, .ro c2 (.pb b) 2), (2, .int .i64 n)])
    (r : List Int × Int × Int) (o g : Nat) (Hx : AM.Heap) (he : Run X T f 0 code [(0, .ro c (.pi .i64 l) 1), (1, .ro c2 (.pb b) 2), (2, .int .i64 n)] [] ⟨.ret, [(6, .sl o 0 r.1.length g), (7, .int .i64 r.2.1), (8, .int .i64 r.2.2)], Hx⟩)
    (ho : Hx[o]? = some (some ⟨.pi .i64 r.1, g, .none, if r.1.length ≤ 1 then 0 else 1, true, false, 0⟩))
    (hrv : resultsV X [(6, .sl o 0 r.1.length g), (7, .int .i64 r.2.1), (8, .int .i64 r.2.2)] Hx fn.results.toList = some [.sl o 0 r.1.length g, .int .i64 r.2.1, .int .i64 r.2.2]) :
    Ev1 X f [.ro c (.pi .i64 l) 1, .ro c2 (.pb b) 2, .int .i64 n] [] (alV r, [alO r.1]) := by
  obtain ⟨lents, hl⟩ := hl
  have := Ev1.fresh (l := [.sl o 0 r.1.length g, .int .i64 r.2.1, .int .i64 r.2.2]) (o := o) (g := g) (ob := ⟨.pi .i64 r.1, g, .none, if r.1.length ≤ 1 then 0 else 1, true, false, 0⟩) hT hF hb hl rfl (by simp [gtag]) (by rw [hnum]; exact he) (.inr rfl) hrv rfl rfl (by simp [live, ho]) rfl rfl rfl
  simpa [alV, alO, resultV, noTups, ren, renL, AM.fresh] using this

set_option maxRecDepth 100000 in
theorem rall_ev (c c2 : Nat) (l : List Int) (b : List UInt8) (n : Int) (h63 : l.length < 9223372036854775808) (hb : b.length ≤ 100000) (hn : n ≤ 100000) :
    Ev1 X 20 [.ro c (.pi .i64 l) 1, .ro c2 (.pb b) 2, .int .i64 n] [] (alV (rallR l b n), [alO (rallR l b n).1]) := by
  by_cases he : (rcheckR l).2 = 0
  · by_cases hn0 : 0 ≤ n
    · obtain ⟨code, hbo, o, hr, h | h⟩ := rall_code c c2 l b n he hb hn0 hn
      · obtain ⟨h0, rfl⟩ := h
        rw [← h0] at hr
        exact al_fresh T8_below Try.func20 hbo ⟨_, rfl⟩ rfl _ 2 _ _ hr rfl rfl
      · obtain ⟨h0, e, out, rfl⟩ := h
        have e1 : (rallR l b n).1 = [] := by rw [e]
        have e2 : (rallR l b n).2.1 = 0 := by rw [e]
        refine al_fresh T8_below Try.func20 hbo ⟨_, rfl⟩ rfl (rallR l b n) 3 0 [nilI, rowI l.length (rcodesR l), obI out, nilI] ?_ ?_ rfl
        · rw [e1, e2]; exact hr
        · rw [e1]; rfl
    · have e : rallR l b n = ([], 0, 2) := by unfold rallR; rw [if_pos he, if_pos (by omega)]
      have hT := T8_codes (H := [nilI]) (a := .ro c (.pi .i64 l) 1) rfl h63 he
      have hn1 : n < 0 := by omega
      rw [e]
      have hr : ∃ code, Try.f20.body = some code ∧ Run X T8 20 0 code [(0, .ro c (.pi .i64 l) 1), (1, .ro c2 (.pb b) 2), (2, .int .i64 n)] [] ⟨.ret, [(6, .sl 2 0 0 0), (7, .int .i64 0), (8, .int .i64 2)], [nilI, rowI l.length (rcodesR l), nilI]⟩ := by
        refine ⟨_, rfl, 0, ?_⟩
        simp only [nilI] at hT ⊢
        simp -implicitDefEqProofs [-getElem?_pos, List.getElem?_cons_zero, List.getElem?_cons_succ, exec, runOps, dstOk, wantedV, AM.step, evalT, evalO, evalArgs, evalParts, getF, putF, afterRegion, assignV, boxOf, newBox, hasIdsP, keepF, ofVal, ofCell, plen, pesz, callV, builtinV, lenV, binV, unV, arith, shiftI, loadV, storeV, putV, indexAddrV, live, upd, pget, pset, psetA, pagg, retag, retagP, byteAV, freezeP, freezeV, joinTags, joinTag, tags, ids, scalar, cellsLen, eqV, convV, faV, fvV, shiftBy, shiftRo, hT, hn1, rowOf, emptyRow]
      obtain ⟨code, hbo, hr⟩ := hr
      exact al_fresh T8_below Try.func20 hbo ⟨_, rfl⟩ rfl ([], 0, 2) 2 0 _ hr rfl rfl
  · have e : rallR l b n = ([], 0, (rcheckR l).2) := by unfold rallR; rw [if_neg he]
    have hT := T8_bad (H := [nilI]) (a := .ro c (.pi .i64 l) 1) rfl h63 he
    have heb : ((rcheckR l).2 != 0) = true := by simpa using he
    rw [e]
    have hr : ∃ code, Try.f20.body = some code ∧ Run X T8 20 0 code [(0, .ro c (.pi .i64 l) 1), (1, .ro c2 (.pb b) 2), (2, .int .i64 n)] [] ⟨.ret, [(6, .sl 2 0 0 0), (7, .int .i64 0), (8, .int .i64 (rcheckR l).2)], [nilI, nilI, nilI]⟩ := by
      refine ⟨_, rfl, 0, ?_⟩
      simp only [nilI] at hT ⊢
      simp -implicitDefEqProofs [-getElem?_pos, List.getElem?_cons_zero, List.getElem?_cons_succ, exec, runOps, dstOk, wantedV, AM.step, evalT, evalO, evalArgs, evalParts, getF, putF, afterRegion, assignV, boxOf, newBox, hasIdsP, keepF, ofVal, ofCell, plen, pesz, callV, builtinV, lenV, binV, unV, arith, shiftI, loadV, storeV, putV, indexAddrV, live, upd, pget, pset, psetA, pagg, retag, retagP, byteAV, freezeP, freezeV, joinTags, joinTag, tags, ids, scalar, cellsLen, eqV, convV, faV, fvV, shiftBy, shiftRo, hT, he, heb, rowOf, emptyRow]
    obtain ⟨code, hbo, hr⟩ := hr
    exact al_fresh T8_below Try.func20 hbo ⟨_, rfl⟩ rfl ([], 0, (rcheckR l).2) 2 0 _ hr rfl rfl

set_option maxRecDepth 100000 in
theorem all_ev (c c2 : Nat) (l : List Int) (b : List UInt8) (n : Int) (h63 : l.length < 9223372036854775808) (hb : b.length ≤ 100000) (hn : n ≤ 100000) :
    Ev1 X 19 [.ro c (.pi .i64 l) 1, .ro c2 (.pb b) 2, .int .i64 n] [] (alV (rallR l b n), [alO (rallR l b n).1]) := by
  have hCk := evT_eq (T2_below _ _ _ _ (T2_check (H := [nilI]) (a := .ro c (.pi .i64 l) 1) (l := l) rfl h63))
  unfold ckV at hCk
  rw [check_eq] at hCk
  by_cases he : (rcheckR l).2 = 0
  · by_cases hn0 : 0 ≤ n
    · obtain ⟨code, hbo, o, hr, h | h⟩ := all_code c c2 l b n he hb hn0 hn
      · obtain ⟨h0, Hr, rfl⟩ := h
        rw [← h0] at hr
        exact al_fresh (evT_below X) Try.func19 hbo ⟨_, rfl⟩ rfl _ 0 _ _ hr rfl rfl
      · obtain ⟨h0, e, Hp, rfl⟩ := h
        have e1 : (rallR l b n).1 = [] := by rw [e]
        have e2 : (rallR l b n).2.1 = 0 := by rw [e]
        refine al_fresh (evT_below X) Try.func19 hbo ⟨_, rfl⟩ rfl (rallR l b n) Hp.length 0 (Hp ++ [nilI]) ?_ ?_ rfl
        · rw [e1, e2]; exact hr
        · rw [e1]; simp [nilI]
    · have e : rallR l b n = ([], 0, 2) := by unfold rallR; rw [if_pos he, if_pos (by omega)]
      have hn1 : n < 0 := by omega
      rw [e]
      have hr : ∃ code, Try.f19.body = some code ∧ Run X (evT X) 19 0 code [(0, .ro c (.pi .i64 l) 1), (1, .ro c2 (.pb b) 2), (2, .int .i64 n)] [] ⟨.ret, [(6, .sl 1 0 0 0), (7, .int .i64 0), (8, .int .i64 2)], [nilI, nilI]⟩ := by
        refine ⟨_, rfl, 0, ?_⟩
        simp only [nilI] at hCk ⊢
        simp -implicitDefEqProofs [-getElem?_pos, List.getElem?_cons_zero, List.getElem?_cons_succ, exec, runOps, dstOk, wantedV, AM.step, evalT, evalO, evalArgs, evalParts, getF, putF, afterRegion, assignV, boxOf, newBox, hasIdsP, keepF, ofVal, ofCell, plen, pesz, callV, builtinV, lenV, binV, unV, arith, shiftI, loadV, storeV, putV, indexAddrV, live, upd, pget, pset, psetA, pagg, retag, retagP, byteAV, freezeP, freezeV, joinTags, joinTag, tags, ids, scalar, cellsLen, eqV, convV, faV, fvV, shiftBy, shiftRo, hCk, he, hn1, rowOf, emptyRow]
      obtain ⟨code, hbo, hr⟩ := hr
      exact al_fresh (evT_below X) Try.func19 hbo ⟨_, rfl⟩ rfl ([], 0, 2) 1 0 _ hr rfl rfl
  · have e : rallR l b n = ([], 0, (rcheckR l).2) := by unfold rallR; rw [if_neg he]
    have heb : ((rcheckR l).2 != 0) = true := by simpa using he
    rw [e]
    have hr : ∃ code, Try.f19.body = some code ∧ Run X (evT X) 19 0 code [(0, .ro c (.pi .i64 l) 1), (1, .ro c2 (.pb b) 2), (2, .int .i64 n)] [] ⟨.ret, [(6, .sl 1 0 0 0), (7, .int .i64 0), (8, .int .i64 (rcheckR l).2)], [nilI, nilI]⟩ := by
      refine ⟨_, rfl, 0, ?_⟩
      simp only [nilI] at hCk ⊢
      simp -implicitDefEqProofs [-getElem?_pos, List.getElem?_cons_zero, List.getElem?_cons_succ, exec, runOps, dstOk, wantedV, AM.step, evalT, evalO, evalArgs, evalParts, getF, putF, afterRegion, assignV, boxOf, newBox, hasIdsP, keepF, ofVal, ofCell, plen, pesz, callV, builtinV, lenV, binV, unV, arith, shiftI, loadV, storeV, putV, indexAddrV, live, upd, pget, pset, psetA, pagg, retag, retagP, byteAV, freezeP, freezeV, joinTags, joinTag, tags, ids, scalar, cellsLen, eqV, convV, faV, fvV, shiftBy, shiftRo, hCk, he, heb, rowOf, emptyRow]
    obtain ⟨code, hbo, hr⟩ := hr
    exact al_fresh (evT_below X) Try.func19 hbo ⟨_, rfl⟩ rfl ([], 0, (rcheckR l).2) 1 0 _ hr rfl rfl

/-- what Codes tells -/
def coR (l : List Int) : List Int := if (rcheckR l).2 = 0 then rcodesR l else []
def coO (l : List Int) : Option AM.Obj := if (rcheckR l).2 = 0 then rowI l.length (rcodesR l) else nilI
def coV (l : List Int) : AV := .tup [.sl 0 0 (coR l).length 0, .int .i64 (rcheckR l).2]

theorem co_ev (c : Nat) (l : List Int) (h63 : l.length < 9223372036854775808) : Ev1 X 14 [.ro c (.pi .i64 l) 1] [] (coV l, [coO l]) := by
  unfold coV coR coO
  by_cases he : (rcheckR l).2 = 0
  · obtain ⟨hl, hf⟩ := rcheck_fine he
    have hce : (checkR l).2 = 0 := by rw [check_eq]; exact he
    have := codes_ev_ok c l hce
    rw [if_pos he, if_pos he, rcodesR_len, he, ← codes_eq hl hf]
    exact this
  · have hce : (checkR l).2 ≠ 0 := by rw [check_eq]; exact he
    have := codes_ev_bad c l h63 hce
    rw [check_eq] at this
    rw [if_neg he, if_neg he]
    exact this

theorem rco_ev (c : Nat) (l : List Int) (h63 : l.length < 9223372036854775808) : Ev1 X 16 [.ro c (.pi .i64 l) 1] [] (coV l, [coO l]) := by
  unfold coV coR coO
  by_cases he : (rcheckR l).2 = 0
  · have := T8_below _ _ _ _ (T8_codes (H := []) (a := .ro c (.pi .i64 l) 1) rfl h63 he)
    rw [if_pos he, if_pos he, rcodesR_len, he]
    exact this
  · have := T8_below _ _ _ _ (T8_bad (H := []) (a := .ro c (.pi .i64 l) 1) rfl h63 he)
    rw [if_neg he, if_neg he]
    exact this

end Go.Proofs.Ytikleidhmekgnaa
