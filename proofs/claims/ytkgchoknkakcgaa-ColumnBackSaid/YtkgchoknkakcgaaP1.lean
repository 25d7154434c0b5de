/- Walks: a column's check; counts appended; what is gone through. -/
import Derived.Test.YtkgchoknkakcgaaL3
import Derived.Test.YtkgchoknkakcgaaCN
namespace Go.Proofs.Ytkgchoknkakcgaa
open Go.AM
set_option linter.unusedSimpArgs false
set_option linter.unusedVariables false

structure Co where
  s : List UInt8 := []
  t : List UInt8 := []
  ot : List UInt8 := []
  n : List UInt8 := []
  on : List UInt8 := []
  cs : Nat := 0
  ln : Nat := 0
  ty : Nat := 0
  fl : Nat := 0
  dc : Nat := 0

structure CoOk (x : Co) : Prop where
  cs : x.cs < 65536
  ln : x.ln < 4294967296
  ty : x.ty < 256
  fl : x.fl < 65536
  dc : x.dc < 256

def Co.pay (x : Co) : AV := .pc [.str x.s, .str x.t, .str x.ot, .str x.n, .str x.on, .int .u16 (x.cs : Nat), .int .u32 (x.ln : Nat), .int .u8 (x.ty : Nat), .int .u16 (x.fl : Nat), .int .u8 (x.dc : Nat)]
def coO (x : Co) : AM.Obj := ⟨x.pay, 0, some 10, 1, false, true, 0⟩
def Co.nms (x : Co) : List (List UInt8) := [x.s, x.t, x.ot, x.n, x.on]
def Co.small (x : Co) : Prop := x.s.length ≤ 255 ∧ x.t.length ≤ 255 ∧ x.ot.length ≤ 255 ∧ x.n.length ≤ 255 ∧ x.on.length ≤ 255
instance (x : Co) : Decidable x.small := by unfold Co.small; infer_instance
/-- a column's check -/
def chk (x : Co) : Int := if x.small ∧ kn x.ty = true then 0 else 2

theorem args_co {f i : Nat} {H : AM.Heap} {x : Co} {r ys : List AV} {xs : List Lent} (hr : lendArgs X f H (i + 1) r = some (ys, xs)) (hrw : X.rw f i = false := by rfl) :
    lendArgs X f H i (.agg x.pay :: r) = some (.agg x.pay :: ys, ⟨[], []⟩ :: xs) := by
  simp [lendArgs, hrw, hr, lendV, Co.pay, lendL, lend1, tags]

theorem mkCo (l : List AV) : mkAgg X 28 l = some (.pc l) := by kernel_rfl
theorem bsN (s t ot n on : List UInt8) (H : AM.Heap) : buildSliceV X H 66 5 [(0, .str s), (1, .str t), (2, .str ot), (3, .str n), (4, .str on)] = some (.ro 1 (.pc [.str s, .str t, .str ot, .str n, .str on]) 0, H) := by kernel_rfl

theorem small_iff (x : Co) : x.small ↔ ∀ (i : Nat) (s : List UInt8), x.nms[i]? = some s → s.length ≤ 255 := by
  constructor
  · rintro ⟨h0, h1, h2, h3, h4⟩ i s h
    match i, h with
    | 0, h => obtain rfl := Option.some.inj h; exact h0
    | 1, h => obtain rfl := Option.some.inj h; exact h1
    | 2, h => obtain rfl := Option.some.inj h; exact h2
    | 3, h => obtain rfl := Option.some.inj h; exact h3
    | 4, h => obtain rfl := Option.some.inj h; exact h4
    | i + 5, h => simp [Co.nms] at h
  · intro h
    exact ⟨h 0 _ rfl, h 1 _ rfl, h 2 _ rfl, h 3 _ rfl, h 4 _ rfl⟩

theorem nms_at (x : Co) {i : Nat} (h : i < 5) : ∃ s, x.nms[i]? = some s ∧ [AV.str x.s, .str x.t, .str x.ot, .str x.n, .str x.on][i]? = some (.str s) := by
  match i, h with
  | 0, _ => exact ⟨_, rfl, rfl⟩
  | 1, _ => exact ⟨_, rfl, rfl⟩
  | 2, _ => exact ⟨_, rfl, rfl⟩
  | 3, _ => exact ⟨_, rfl, rfl⟩
  | 4, _ => exact ⟨_, rfl, rfl⟩

def ckFr (L : List AV) (i : Nat) : AM.Frame := [(1, .ptr 0 0 0 0), (15, .ro 1 (.pc L) 0), (16, .int .i64 5), (17, .int .i64 (i : Nat))]

section
variable (x : Co)

set_option maxRecDepth 100000 in
theorem check_code (hx : x.ty < 256) : ∃ code, Try.f15.body = some code ∧
    Tells (Rets fun fr H => getF fr 2 = .int .i64 (chk x)) X (evT X) 15 0 code [(0, .agg x.pay)] [] := by
  refine ⟨_, rfl, ?_⟩
  have hK := known_ev hx [some (coO x)]
  have hat := fun i h => nms_at x (i := i) h
  have hsm := small_iff x
  apply Tells.seq (fr' := [(1, .ptr 0 0 0 0)]) (H' := [some (coO x)])
  · (refine ⟨0, ?_⟩; simp (maxSteps := 2000000) -implicitDefEqProofs [-getElem?_pos, List.getElem?_cons_zero, List.getElem?_cons_succ, exec, runOps, dstOk, wantedV, AM.step, evalT, evalO, evalArgs, evalParts, getF, putF, afterRegion, assignV, boxOf, newBox, hasIdsP, keepF, ofVal, ofCell, plen, pesz, callV, builtinV, lenV, binV, unV, arith, shiftI, loadV, storeV, putV, indexAddrV, live, upd, pget, pset, psetA, pagg, retag, retagP, byteAV, freezeP, freezeV, joinTags, joinTag, tags, ids, scalar, cellsLen, eqV, convV, faV, fvV, shiftBy, shiftRo, coO, Co.pay])
  apply Tells.assoc
  apply Tells.seq (fr' := ckFr [.str x.s, .str x.t, .str x.ot, .str x.n, .str x.on] 0) (H' := [some (coO x)])
  · (refine ⟨0, ?_⟩; simp (maxSteps := 2000000) -implicitDefEqProofs [-getElem?_pos, List.getElem?_cons_zero, List.getElem?_cons_succ, exec, runOps, dstOk, wantedV, AM.step, evalT, evalO, evalArgs, evalParts, getF, putF, afterRegion, assignV, boxOf, newBox, hasIdsP, keepF, ofVal, ofCell, plen, pesz, callV, builtinV, lenV, binV, unV, arith, shiftI, loadV, storeV, putV, indexAddrV, live, upd, pget, pset, psetA, pagg, retag, retagP, byteAV, freezeP, freezeV, joinTags, joinTag, tags, ids, scalar, cellsLen, eqV, convV, faV, fvV, shiftBy, shiftRo, coO, Co.pay, bsN, ckFr])
  have hLl : [AV.str x.s, .str x.t, .str x.ot, .str x.n, .str x.on].length = 5 := rfl
  generalize [AV.str x.s, .str x.t, .str x.ot, .str x.n, .str x.on] = L at *
  apply Tells.blockThen (P := fun fr H => x.small ∧ fr = ckFr L 5 ++ [(18, .bool false)] ∧ H = [some (coO x)])
  · refine Tells.loop (σ := Nat) (fun i => i ≤ 5 ∧ ∀ j s, j < i → x.nms[j]? = some s → s.length ≤ 255) (fun i => ckFr L i) (fun _ => [some (coO x)]) (fun i => 5 - i) ?_ 0 ⟨by omega, fun j s h => absurd h (by omega)⟩
    rintro i ⟨hi, hall⟩
    by_cases hin : i = 5
    · right
      subst hin
      refine ⟨⟨.exit 0, ckFr L 5 ++ [(18, .bool false)], [some (coO x)]⟩, .inl ⟨rfl, hsm.2 fun i s h => hall i s (by apply Classical.byContradiction; intro hge; rw [List.getElem?_eq_none (by simp [Co.nms]; omega)] at h; cases h) h, rfl, rfl⟩, by simp, ?_⟩
      (refine ⟨0, ?_⟩; simp (maxSteps := 2000000) -implicitDefEqProofs [-getElem?_pos, List.getElem?_cons_zero, List.getElem?_cons_succ, exec, runOps, dstOk, wantedV, AM.step, evalT, evalO, evalArgs, evalParts, getF, putF, afterRegion, assignV, boxOf, newBox, hasIdsP, keepF, ofVal, ofCell, plen, pesz, callV, builtinV, lenV, binV, unV, arith, shiftI, loadV, storeV, putV, indexAddrV, live, upd, pget, pset, psetA, pagg, retag, retagP, byteAV, freezeP, freezeV, joinTags, joinTag, tags, ids, scalar, cellsLen, eqV, convV, faV, fvV, shiftBy, shiftRo, ckFr])
    · have hi5 : i < 5 := by omega
      have hiI : (i : Int) < 5 := by omega
      obtain ⟨s, hs, hL⟩ := hat i hi5
      have w1 : IntKind.i64.wrap ((i : Int) + 1) = ((i + 1 : Nat) : Int) := by rw [wrap_i64 (by omega) (by omega)]; omega
      by_cases hl : s.length ≤ 255
      · left
        have hlI : ¬ (255 : Int) < (s.length : Int) := by omega
        refine ⟨i + 1, ⟨by omega, fun j s' hj hs' => ?_⟩, ?_, by omega⟩
        · by_cases hji : j = i
          · subst hji; rw [hs] at hs'; obtain rfl := Option.some.inj hs'; exact hl
          · exact hall j s' (by omega) hs'
        · (refine ⟨0, ?_⟩; simp (maxSteps := 2000000) -implicitDefEqProofs [-getElem?_pos, List.getElem?_cons_zero, List.getElem?_cons_succ, exec, runOps, dstOk, wantedV, AM.step, evalT, evalO, evalArgs, evalParts, getF, putF, afterRegion, assignV, boxOf, newBox, hasIdsP, keepF, ofVal, ofCell, plen, pesz, callV, builtinV, lenV, binV, unV, arith, shiftI, loadV, storeV, putV, indexAddrV, live, upd, pget, pset, psetA, pagg, retag, retagP, byteAV, freezeP, freezeV, joinTags, joinTag, tags, ids, scalar, cellsLen, eqV, convV, faV, fvV, shiftBy, shiftRo, ckFr, hiI, hi5, hLl, hL, hlI, w1])
      · right
        have hlI : (255 : Int) < (s.length : Int) := by omega
        refine ⟨⟨.ret, [(2, .int .i64 2)], [some (coO x)]⟩, .inr ⟨rfl, rfl, ?_⟩, by simp, ?_⟩
        · unfold chk
          rw [if_neg (fun h => hl (hsm.1 h.1 i s hs))]
          rfl
        · (refine ⟨0, ?_⟩; simp (maxSteps := 2000000) -implicitDefEqProofs [-getElem?_pos, List.getElem?_cons_zero, List.getElem?_cons_succ, exec, runOps, dstOk, wantedV, AM.step, evalT, evalO, evalArgs, evalParts, getF, putF, afterRegion, assignV, boxOf, newBox, hasIdsP, keepF, ofVal, ofCell, plen, pesz, callV, builtinV, lenV, binV, unV, arith, shiftI, loadV, storeV, putV, indexAddrV, live, upd, pget, pset, psetA, pagg, retag, retagP, byteAV, freezeP, freezeV, joinTags, joinTag, tags, ids, scalar, cellsLen, eqV, convV, faV, fvV, shiftBy, shiftRo, ckFr, hiI, hi5, hLl, hL, hlI])
  · rintro fr H ⟨hs, rfl, rfl⟩
    unfold chk
    simp only [hs, true_and]
    cases hk : kn x.ty with
    | true =>
      refine Tells.of (o := ⟨.ret, [(2, .int .i64 0)], [some (coO x)]⟩) ⟨0, ?_⟩ ⟨rfl, rfl⟩
      rw [hk] at hK
      simp only [coO, Co.pay] at hK
      simp (maxSteps := 2000000) -implicitDefEqProofs [-getElem?_pos, List.getElem?_cons_zero, List.getElem?_cons_succ, exec, runOps, dstOk, wantedV, AM.step, evalT, evalO, evalArgs, evalParts, getF, putF, afterRegion, assignV, boxOf, newBox, hasIdsP, keepF, ofVal, ofCell, plen, pesz, callV, builtinV, lenV, binV, unV, arith, shiftI, loadV, storeV, putV, indexAddrV, live, upd, pget, pset, psetA, pagg, retag, retagP, byteAV, freezeP, freezeV, joinTags, joinTag, tags, ids, scalar, cellsLen, eqV, convV, faV, fvV, shiftBy, shiftRo, coO, Co.pay, ckFr, hK, unV]
    | false =>
      refine Tells.of (o := ⟨.ret, [(2, .int .i64 2)], [some (coO x)]⟩) ⟨0, ?_⟩ ⟨rfl, rfl⟩
      rw [hk] at hK
      simp only [coO, Co.pay] at hK
      simp (maxSteps := 2000000) -implicitDefEqProofs [-getElem?_pos, List.getElem?_cons_zero, List.getElem?_cons_succ, exec, runOps, dstOk, wantedV, AM.step, evalT, evalO, evalArgs, evalParts, getF, putF, afterRegion, assignV, boxOf, newBox, hasIdsP, keepF, ofVal, ofCell, plen, pesz, callV, builtinV, lenV, binV, unV, arith, shiftI, loadV, storeV, putV, indexAddrV, live, upd, pget, pset, psetA, pagg, retag, retagP, byteAV, freezeP, freezeV, joinTags, joinTag, tags, ids, scalar, cellsLen, eqV, convV, faV, fvV, shiftBy, shiftRo, coO, Co.pay, ckFr, hK, unV]

/-- is it gone through? -/
def smB (x : Co) : Bool := decide (IntKind.i64.wrap (IntKind.i64.wrap (IntKind.i64.wrap (IntKind.i64.wrap ((x.s.length : Int) + x.t.length) + x.ot.length) + x.n.length) + x.on.length) ≤ 6000)

set_option maxRecDepth 100000 in
theorem small_code : ∃ code, Try.f12.body = some code ∧
    Run X (evT X) 12 0 code [(0, .agg x.pay)] [] ⟨.ret, [(2, .bool (smB x))], [some (coO x)]⟩ := by
  refine ⟨_, rfl, 0, ?_⟩
  unfold smB
  simp (maxSteps := 2000000) -implicitDefEqProofs [-getElem?_pos, List.getElem?_cons_zero, List.getElem?_cons_succ, exec, runOps, dstOk, wantedV, AM.step, evalT, evalO, evalArgs, evalParts, getF, putF, afterRegion, assignV, boxOf, newBox, hasIdsP, keepF, ofVal, ofCell, plen, pesz, callV, builtinV, lenV, binV, unV, arith, shiftI, loadV, storeV, putV, indexAddrV, live, upd, pget, pset, psetA, pagg, retag, retagP, byteAV, freezeP, freezeV, joinTags, joinTag, tags, ids, scalar, cellsLen, eqV, convV, faV, fvV, shiftBy, shiftRo, coO, Co.pay]

end

theorem check_ev {H : AM.Heap} {x : Co} (hx : x.ty < 256) : evT X 15 [.agg x.pay] H = some (.int .i64 (chk x), H) := by
  obtain ⟨code, hcode, o, ⟨he, h2⟩, hr⟩ := check_code x hx
  exact evT_eq (Ev1.toldP (l := [.int .i64 (chk x)]) (evT_below X) Try.func15 hcode (args_co (i := 0) (args_nil 1)) (by simp [Co.pay, idsL, ids]) (by simp [gtag]) rfl rfl rfl ⟨o, ⟨he, by show some [getF o.fr 2] = _; rw [h2]⟩, hr⟩)

theorem small_ev {H : AM.Heap} {x : Co} : evT X 12 [.agg x.pay] H = some (.bool (smB x), H) := by
  obtain ⟨code, hcode, hr⟩ := small_code x
  exact evT_eq (Ev1.toldP (l := [.bool (smB x)]) (evT_below X) Try.func12 hcode (args_co (i := 0) (args_nil 1)) (by simp [Co.pay, idsL, ids]) (by simp [gtag]) rfl rfl rfl ⟨_, ⟨rfl, rfl⟩, hr⟩)

/-- a count appended -/
def acR (b : List UInt8) (n : Int) : List UInt8 × Int := if 1 ≤ n ∧ n ≤ 4096 then (b ++ aI n.toNat, 0) else ([], 2)

theorem bs3 (H : AM.Heap) (y : UInt8) : buildSliceV X H 22 3 [(0, .int .u8 (y.toNat : Nat)), (1, .int .u8 0), (2, .int .u8 0)] = some (.ro 1 (.pb [y, 0, 0]) 0, H) := by
  have := y.toNat_lt
  have h1 : (y.toNat : Int) < 256 := by omega
  simp [buildSliceV, setParts, litRow, mkRow, asBytes, cellsAV, cellsOf, scalars, scalar, idsL, ids, tagsL, tags, joinTags, h1]

section
variable (c : Nat) (b : List UInt8) (n : Int)

set_option maxRecDepth 100000 in
theorem count_code (hc : c = 0 → b = []) (hb : b.length ≤ 1000000) : ∃ code, Try.f13.body = some code ∧
    Tells (Rets fun fr H => ∃ o g ob, getF fr 4 = .sl o 0 (acR b n).1.length g ∧ getF fr 5 = .int .i64 (acR b n).2 ∧ H[o]? = some (some ob) ∧ Rw (.pb (acR b n).1) g ob) X (evT X) 13 0 code [(0, .ro c (.pb b) 1), (1, .int .i64 n)] [] := by
  refine ⟨_, rfl, ?_⟩
  unfold acR
  by_cases h1 : n < 1
  · rw [if_neg (by omega)]
    refine Tells.of (o := ⟨.ret, [(4, .sl 1 0 0 0), (5, .int .i64 2)], [some nilB, some nilB]⟩) ⟨0, ?_⟩ ⟨rfl, 1, 0, nilB, rfl, rfl, rfl, nilB_rw⟩
    simp (maxSteps := 2000000) -implicitDefEqProofs [-getElem?_pos, List.getElem?_cons_zero, List.getElem?_cons_succ, exec, runOps, dstOk, wantedV, AM.step, evalT, evalO, evalArgs, evalParts, getF, putF, afterRegion, assignV, boxOf, newBox, hasIdsP, keepF, ofVal, ofCell, plen, pesz, callV, builtinV, lenV, binV, unV, arith, shiftI, loadV, storeV, putV, indexAddrV, live, upd, pget, pset, psetA, pagg, retag, retagP, byteAV, freezeP, freezeV, joinTags, joinTag, tags, ids, scalar, cellsLen, eqV, convV, faV, fvV, shiftBy, shiftRo, assignV, emB, h1]
  by_cases h2 : 4096 < n
  · rw [if_neg (by omega)]
    refine Tells.of (o := ⟨.ret, [(4, .sl 1 0 0 0), (5, .int .i64 2)], [some nilB, some nilB]⟩) ⟨0, ?_⟩ ⟨rfl, 1, 0, nilB, rfl, rfl, rfl, nilB_rw⟩
    simp (maxSteps := 2000000) -implicitDefEqProofs [-getElem?_pos, List.getElem?_cons_zero, List.getElem?_cons_succ, exec, runOps, dstOk, wantedV, AM.step, evalT, evalO, evalArgs, evalParts, getF, putF, afterRegion, assignV, boxOf, newBox, hasIdsP, keepF, ofVal, ofCell, plen, pesz, callV, builtinV, lenV, binV, unV, arith, shiftI, loadV, storeV, putV, indexAddrV, live, upd, pget, pset, psetA, pagg, retag, retagP, byteAV, freezeP, freezeV, joinTags, joinTag, tags, ids, scalar, cellsLen, eqV, convV, faV, fvV, shiftBy, shiftRo, assignV, emB, h1, h2]
  rw [if_pos (by omega)]
  obtain ⟨n, rfl⟩ : ∃ m : Nat, n = (m : Int) := ⟨n.toNat, by omega⟩
  rw [Int.toNat_natCast]
  have wn : IntKind.u64.wrap (n : Int) = (n : Int) := wrap_u64 (by omega) (by omega)
  obtain ⟨ob1, hw1, hA⟩ := appendInt_ev (H := [some nilB]) (a := .ro c (.pb b) 1) (b := b) (x := n) (Byt.ro (.inl rfl) hc) (by omega) (by omega)
  refine Tells.of (o := ⟨.ret, [(4, .sl 1 0 (b.length + szI n) 0), (5, .int .i64 0)], [some nilB, some ob1]⟩) ⟨0, ?_⟩ ⟨rfl, 1, 0, ob1, by simp [getF, aI_len], rfl, rfl, hw1⟩
  simp (maxSteps := 2000000) -implicitDefEqProofs [-getElem?_pos, List.getElem?_cons_zero, List.getElem?_cons_succ, exec, runOps, dstOk, wantedV, AM.step, evalT, evalO, evalArgs, evalParts, getF, putF, afterRegion, assignV, boxOf, newBox, hasIdsP, keepF, ofVal, ofCell, plen, pesz, callV, builtinV, lenV, binV, unV, arith, shiftI, loadV, storeV, putV, indexAddrV, live, upd, pget, pset, psetA, pagg, retag, retagP, byteAV, freezeP, freezeV, joinTags, joinTag, tags, ids, scalar, cellsLen, eqV, convV, faV, fvV, shiftBy, shiftRo, assignV, emB, h1, h2, wn, hA]

end

theorem count_ev {H : AM.Heap} {a : AV} {b : List UInt8} {n : Int} (h : Byt H a b) (hb : b.length ≤ 1000000) :
    ∃ ob, Rw (.pb (acR b n).1) 0 ob ∧ evT X 13 [a, .int .i64 n] H = some (.tup [.sl H.length 0 (acR b n).1.length 0, .int .i64 (acR b n).2], H ++ [some ob]) := by
  obtain ⟨c, p, xl, hp, hc, hx'⟩ := args_byt (C := X) (f := 13) (i := 0) rfl h (args_flat (i := 1) (a := .int .i64 n) rfl rfl (args_nil 2))
  obtain ⟨code, hcode, hr⟩ := count_code c b n hc hb
  obtain ⟨ob, q1, q2⟩ := Ev1.newB (H := H) (n := (acR b n).1.length) (l := (acR b n).1) (rest := [.int .i64 (acR b n).2]) (evT_below X) Try.func13 hcode hx' (by simp [idsL, ids, hp.ids]) (by simp [gtag]) rfl rfl rfl (by
    obtain ⟨o, ⟨he, o1, g, ob, q1, q2, q3, q4⟩, hrun⟩ := hr
    exact ⟨o, ⟨he, o1, g, ob, by show some [getF o.fr 4, getF o.fr 5] = _; rw [q1, q2], q3, q4⟩, by rw [par13, coB hp]; exact hrun⟩)
  exact ⟨ob, q1, evT_eq q2⟩

theorem cfix_code (c : Nat) (b : List UInt8) (x n : Nat) (hc : c = 0 → b = []) (hb : b.length ≤ 1000000) (h1 : 1 ≤ n) (h8 : n ≤ 8) (hx : x < 256 ^ n) : ∃ code, Try.f37.body = some code ∧
    Tells (Rets fun fr H => ∃ o g ob, getF fr 6 = .sl o 0 (b.length + n) g ∧ H[o]? = some (some ob) ∧ Rw (.pb (b ++ leB n x)) g ob) X (evT X) 37 0 code [(0, .ro c (.pb b) 1), (1, .int .u64 (x : Nat)), (2, .int .i64 (n : Nat))] [] := by
  refine ⟨_, rfl, ?_⟩
  obtain ⟨ob1, hw1, hA⟩ := af_ev (H := [some nilB]) (a := .ro c (.pb b) 1) (b := b) (x := x) (n := n) (Byt.ro (.inl rfl) hc) (by omega) h1 h8 hx
  refine Tells.of (o := ⟨.ret, [(6, .sl 1 0 (b.length + n) 0)], [some nilB, some ob1]⟩) ⟨0, ?_⟩ ⟨rfl, 1, 0, ob1, rfl, rfl, hw1⟩
  simp (maxSteps := 2000000) -implicitDefEqProofs [-getElem?_pos, List.getElem?_cons_zero, List.getElem?_cons_succ, exec, runOps, dstOk, wantedV, AM.step, evalT, evalO, evalArgs, evalParts, getF, putF, afterRegion, assignV, boxOf, newBox, hasIdsP, keepF, ofVal, ofCell, plen, pesz, callV, builtinV, lenV, binV, unV, arith, shiftI, loadV, storeV, putV, indexAddrV, live, upd, pget, pset, psetA, pagg, retag, retagP, byteAV, freezeP, freezeV, joinTags, joinTag, tags, ids, scalar, cellsLen, eqV, convV, faV, fvV, shiftBy, shiftRo, assignV, emB, hA]

theorem cfix_ev {H : AM.Heap} {a : AV} {b : List UInt8} {x n : Nat} {N : Int} (h : Byt H a b) (hN : N = (n : Nat)) (hb : b.length ≤ 1000000) (h1 : 1 ≤ n) (h8 : n ≤ 8) (hx : x < 256 ^ n) :
    ∃ ob, Rw (.pb (b ++ leB n x)) 0 ob ∧ evT X 37 [a, .int .u64 (x : Nat), .int .i64 N] H = some (.sl H.length 0 (b.length + n) 0, H ++ [some ob]) := by
  subst hN
  obtain ⟨c, p, xl, hp, hc, hx'⟩ := args_byt (C := X) (f := 37) (i := 0) rfl h (args_flat (i := 1) (a := .int .u64 (x : Nat)) rfl rfl (args_flat (i := 2) (a := .int .i64 (n : Nat)) rfl rfl (args_nil 3)))
  obtain ⟨code, hcode, hr⟩ := cfix_code c b x n hc hb h1 h8 hx
  obtain ⟨ob, q1, q2⟩ := Ev1.newB (H := H) (n := b.length + n) (l := b ++ leB n x) (rest := []) (evT_below X) Try.func37 hcode hx' (by simp [idsL, ids, hp.ids]) (by simp [gtag]) rfl rfl rfl (by
    obtain ⟨o, ⟨he, o1, g, ob, q1, q3, q4⟩, hrun⟩ := hr
    exact ⟨o, ⟨he, o1, g, ob, by show some [getF o.fr 6] = _; rw [q1], q3, q4⟩, by rw [par37, coB hp]; exact hrun⟩)
  exact ⟨ob, q1, evT_eq q2⟩

end Go.Proofs.Ytkgchoknkakcgaa
