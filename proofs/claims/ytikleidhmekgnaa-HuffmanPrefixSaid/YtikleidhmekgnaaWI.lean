/- Walks: the document's Decode. -/
import Derived.Test.YtikleidhmekgnaaWH
namespace Go.Proofs.Ytikleidhmekgnaa
open Go.AM
set_option linter.unusedSimpArgs false
set_option linter.unusedVariables false

/-- a loop, by a property of what it tells -/
theorem loop_pred {C : Ctx} {T : Cf} {f m : Nat} {c : Code} {σ : Type} (I : σ → Prop) (fr : σ → AM.Frame) (H : σ → AM.Heap) (P : σ → AM.Out → Prop) (μ : σ → Nat)
    (step : ∀ s, I s → ∃ o, Run C T f m c (fr s) (H s) o ∧ ((∃ s', I s' ∧ o = ⟨.normal, fr s', H s'⟩ ∧ (∀ o', P s' o' → P s o') ∧ μ s' < μ s) ∨ (o.ex ≠ .normal ∧ P s o))) (s : σ) (hs : I s) :
    ∃ o, Run C T f m (.loop c) (fr s) (H s) o ∧ P s o := by
  generalize hn : μ s = n
  induction n using Nat.strongRecOn generalizing s with
  | _ n ih =>
    obtain ⟨o, h1, ⟨s', a, b, c, d⟩ | ⟨a, b⟩⟩ := step s hs
    · obtain ⟨o', g1, g2⟩ := ih (μ s') (by omega) s' a rfl
      subst b
      exact ⟨o', Run.loop_step h1 g1, c _ g2⟩
    · exact ⟨o, Run.loop_out h1 a, b⟩

/-- a loop in its block, by a property of what it tells, and what follows -/
theorem seqB_pred {C : Ctx} {T : Cf} {f m id : Nat} {a c rest : Code} {fr fr1 : AM.Frame} {H H1 : AM.Heap} {out : AM.Out} {P : AM.Out → Prop} (h0 : Run C T f m a fr H ⟨.normal, fr1, H1⟩) (hl : ∃ o, Run C T f m c fr1 H1 o ∧ P o)
    (h1 : ∀ o, P o → (∃ fr' H', blockOut id o = ⟨.normal, fr', H'⟩ ∧ Run C T f m rest fr' H' out) ∨ (blockOut id o = out ∧ out.ex ≠ .normal)) : Run C T f m (.seq (.seq a (.block id c)) rest) fr H out := by
  obtain ⟨o, g1, g2⟩ := hl
  have hb : Run C T f m (.seq a (.block id c)) fr H (blockOut id o) := Run.seq h0 (Run.block' g1)
  rcases h1 o g2 with ⟨fr', H', e, h2⟩ | ⟨e, h2⟩
  · rw [e] at hb; exact Run.seq hb h2
  · rw [e] at hb; exact Run.seq_out hb h2

theorem bit_ev (c : Nat) (b : List UInt8) (i : Nat) (hi : i < 8 * b.length) (h63 : i < 9223372036854775807) : Ev1 X 27 [.ro c (.pb b) 1, .int .i64 (i : Nat)] [] (.int .i64 (rbit b i), []) := by
  obtain ⟨code, hb, hr⟩ := bit_code (fun _ _ _ => .none) c b i hi h63
  exact Ev1.plain (l := [.int .i64 (rbit b i)]) Below.none Try.func27 hb rfl rfl (by simp [gtag]) hr (.inr rfl) rfl rfl rfl

def S7 (f : Nat) (xs : List AV) : Option (AV × AM.Heap) :=
  match f, xs with
  | 27, [.ro _ (.pb b) 1, .int .i64 i] => if 0 ≤ i ∧ i < 8 * b.length ∧ i < 9223372036854775807 then some (.int .i64 (rbit b i.toNat), []) else .none
  | f, xs => S5 f xs

theorem S7_ok : ∀ f xs v N, S7 f xs = some (v, N) → Ev1 X f xs [] (v, N) := by
  intro f xs v N h
  unfold S7 at h
  split at h
  · rename_i c b i
    split at h
    · rename_i hl
      simp only [Option.some.injEq, Prod.mk.injEq] at h
      obtain ⟨rfl, rfl⟩ := h
      have := bit_ev c b i.toNat (by omega) (by omega)
      rwa [show ((i.toNat : Nat) : Int) = i by omega] at this
    · cases h
  · exact S5_ok _ _ _ _ h

noncomputable def T7 : Cf := lentT X S7
theorem T7_below : Below X T7 := lentT_below S7_ok

theorem T7_bit {H : AM.Heap} {a : AV} {b : List UInt8} {i : Int} (h : payOf H a = some (.pb b)) (h0 : 0 ≤ i) (h1 : i < 8 * b.length) (h2 : i < 9223372036854775807) : T7 27 [a, .int .i64 i] H = some (.int .i64 (rbit b i.toNat), H) := by
  have hx2 := args_flat (C := X) (f := 27) (i := 1) (a := .int .i64 i) (H := H) rfl rfl (args_nil 2)
  obtain ⟨c, x, hx⟩ := args_pay (C := X) (f := 27) (i := 0) rfl h hx2
  unfold T7 lentT
  rw [hx]
  simp [S7, h0, h1, h2, idsL, ids, cleanV, cleanH, tags, shiftV, shiftH, ren]

/-- the longest -/
def mxL : Int → List Int → Int
  | m, [] => m
  | m, x :: r => mxL (if m < x then x else m) r

theorem mxL_bound : ∀ (l : List Int) (m : Int), 0 ≤ m → m ≤ 15 → fine l = true → 0 ≤ mxL m l ∧ mxL m l ≤ 15
  | [], m, h0, h1, _ => ⟨h0, h1⟩
  | x :: r, m, h0, h1, hf => by
    obtain ⟨h, hr⟩ := fine_cons.1 hf
    unfold mxL
    refine mxL_bound r _ ?_ ?_ hr <;> split <;> omega

/-- where a code of length i is -/
def findJ (i code : Int) : List Int → List Int → Nat → Option Nat
  | x :: r, y :: cs, j => if x = i ∧ y = code then some j else findJ i code r cs (j + 1)
  | _, _, _ => none

/-- the document's reading of a symbol -/
def decL (l codes : List Int) (b : List UInt8) (a : Nat) : Nat → Nat → Int → Int × Int × Int
  | 0, _, _ => (0, 0, 5)
  | k + 1, i, code => if 8 * b.length - (i : Int) < a then (0, 0, 4) else
    match findJ i (2 * code + rbit b (a + i - 1)) l codes 0 with
    | some j => (j, i, 0)
    | none => decL l codes b a k (i + 1) (2 * code + rbit b (a + i - 1))

def decR (l codes : List Int) (b : List UInt8) (a : Nat) : Int × Int × Int := decL l codes b a (mxL 0 l).toNat 1 0

theorem rbit_two (b : List UInt8) (i : Nat) : 0 ≤ rbit b i ∧ rbit b i ≤ 1 := by unfold rbit; omega

def d1Fr (c c2 c3 : Nat) (l codes : List Int) (b : List UInt8) (a : Nat) (m : Int) (i : Nat) : AM.Frame :=
  [(0, .ro c (.pi .i64 l) 1), (1, .ro c2 (.pi .i64 codes) 2), (2, .ro c3 (.pb b) 3), (3, .int .i64 (a : Nat)), (11, .int .i64 m), (12, .int .i64 (i : Nat))]
def d2Fr (c c2 c3 : Nat) (l codes : List Int) (b : List UInt8) (a : Nat) (m code : Int) (i : Nat) : AM.Frame :=
  [(0, .ro c (.pi .i64 l) 1), (1, .ro c2 (.pi .i64 codes) 2), (2, .ro c3 (.pb b) 3), (3, .int .i64 (a : Nat)), (11, .int .i64 m), (13, .int .i64 code), (14, .int .i64 (i : Nat))]
def d3Fr (c c2 c3 : Nat) (l codes : List Int) (b : List UInt8) (a : Nat) (m code : Int) (i j : Nat) : AM.Frame :=
  [(0, .ro c (.pi .i64 l) 1), (1, .ro c2 (.pi .i64 codes) 2), (2, .ro c3 (.pb b) 3), (3, .int .i64 (a : Nat)), (11, .int .i64 m), (13, .int .i64 code), (14, .int .i64 (i : Nat)), (15, .int .i64 (j : Nat))]

/-- what the inner loop tells -/
def d3O (c c2 c3 : Nat) (l codes : List Int) (b : List UInt8) (a : Nat) (m code : Int) (i : Nat) (r : Option Nat) : AM.Out :=
  match r with
  | some j => ⟨.ret, [(8, .int .i64 (j : Nat)), (9, .int .i64 (i : Nat)), (10, .int .i64 0)], []⟩
  | none => ⟨.exit 4, d3Fr c c2 c3 l codes b a m code i l.length ++ [(52, .bool false)], []⟩

theorem findJ_at : ∀ (r cs : List Int) (i code : Int) (j : Nat), findJ i code r cs j = none ∨ ∃ k, findJ i code r cs j = some k
  | r, cs, i, code, j => by cases findJ i code r cs j <;> simp

/-- what the outer loop tells -/
def d2P (l codes : List Int) (b : List UInt8) (a : Nat) (k i : Nat) (code : Int) (o : AM.Out) : Prop :=
  (decL l codes b a k i code = (0, 0, 5) ∧ ∃ fr, o = ⟨.exit 2, fr, []⟩) ∨
  o = ⟨.ret, [(8, .int .i64 (decL l codes b a k i code).1), (9, .int .i64 (decL l codes b a k i code).2.1), (10, .int .i64 (decL l codes b a k i code).2.2)], []⟩

set_option maxRecDepth 100000 in
theorem decode_code (c c2 c3 : Nat) (l codes : List Int) (b : List UInt8) (a : Nat) (hl : l.length ≤ 320) (hf : fine l = true) (hc : codes.length = l.length) (hb : b.length ≤ 100000) (ha : a < 9223372036854775808) : ∃ code, Try.f25.body = some code ∧
    Run X T7 25 0 code [(0, .ro c (.pi .i64 l) 1), (1, .ro c2 (.pi .i64 codes) 2), (2, .ro c3 (.pb b) 3), (3, .int .i64 (a : Nat))] []
      ⟨.ret, [(8, .int .i64 (decR l codes b a).1), (9, .int .i64 (decR l codes b a).2.1), (10, .int .i64 (decR l codes b a).2.2)], []⟩ := by
  refine ⟨_, rfl, ?_⟩
  apply Run.seq
  · (refine ⟨0, ?_⟩; conv => lhs; simp -implicitDefEqProofs [-getElem?_pos, List.getElem?_cons_zero, List.getElem?_cons_succ, exec, runOps, dstOk, wantedV, AM.step, evalT, evalO, evalArgs, evalParts, getF, putF, afterRegion, assignV, boxOf, newBox, hasIdsP, keepF, ofVal, ofCell, plen, pesz, callV, builtinV, lenV, binV, unV, arith, shiftI, loadV, storeV, putV, indexAddrV, live, upd, pget, pset, psetA, pagg, retag, retagP, byteAV, freezeP, freezeV, joinTags, joinTag, tags, ids, scalar, cellsLen, eqV, convV, faV, fvV, shiftBy, shiftRo])
  apply Run.seq
  · (refine ⟨0, ?_⟩; conv => lhs; simp -implicitDefEqProofs [-getElem?_pos, List.getElem?_cons_zero, List.getElem?_cons_succ, exec, runOps, dstOk, wantedV, AM.step, evalT, evalO, evalArgs, evalParts, getF, putF, afterRegion, assignV, boxOf, newBox, hasIdsP, keepF, ofVal, ofCell, plen, pesz, callV, builtinV, lenV, binV, unV, arith, shiftI, loadV, storeV, putV, indexAddrV, live, upd, pget, pset, psetA, pagg, retag, retagP, byteAV, freezeP, freezeV, joinTags, joinTag, tags, ids, scalar, cellsLen, eqV, convV, faV, fvV, shiftBy, shiftRo])
  apply Run.seq (fr' := d1Fr c c2 c3 l codes b a (mxL 0 l) l.length ++ [(19, .bool false)]) (H' := [])
  · apply Run.seq (fr' := d1Fr c c2 c3 l codes b a 0 0) (H' := [])
    · (refine ⟨0, ?_⟩; simp -implicitDefEqProofs [-getElem?_pos, List.getElem?_cons_zero, List.getElem?_cons_succ, exec, runOps, dstOk, wantedV, AM.step, evalT, evalO, evalArgs, evalParts, getF, putF, afterRegion, assignV, boxOf, newBox, hasIdsP, keepF, ofVal, ofCell, plen, pesz, callV, builtinV, lenV, binV, unV, arith, shiftI, loadV, storeV, putV, indexAddrV, live, upd, pget, pset, psetA, pagg, retag, retagP, byteAV, freezeP, freezeV, joinTags, joinTag, tags, ids, scalar, cellsLen, eqV, convV, faV, fvV, shiftBy, shiftRo, d1Fr])
    · apply Run.block_exit
      refine Run.loop_rule (σ := Int × List Int × List Int) (fun t => t.2.1 ++ t.2.2 = l) (fun t => d1Fr c c2 c3 l codes b a t.1 t.2.1.length) (fun _ => []) (fun t => ⟨.exit 0, d1Fr c c2 c3 l codes b a (mxL t.1 t.2.2) l.length ++ [(19, .bool false)], []⟩) (fun t => t.2.2.length) ?_ (0, [], l) rfl
      rintro ⟨m, done, todo⟩ hd
      simp only at hd ⊢
      cases todo with
      | nil =>
        right
        have hlen : done.length = l.length := by rw [← hd]; simp
        refine ⟨?_, by simp⟩
        apply Run.seq_out
        · (refine ⟨0, ?_⟩; simp -implicitDefEqProofs [-getElem?_pos, List.getElem?_cons_zero, List.getElem?_cons_succ, exec, runOps, dstOk, wantedV, AM.step, evalT, evalO, evalArgs, evalParts, getF, putF, afterRegion, assignV, boxOf, newBox, hasIdsP, keepF, ofVal, ofCell, plen, pesz, callV, builtinV, lenV, binV, unV, arith, shiftI, loadV, storeV, putV, indexAddrV, live, upd, pget, pset, psetA, pagg, retag, retagP, byteAV, freezeP, freezeV, joinTags, joinTag, tags, ids, scalar, cellsLen, eqV, convV, faV, fvV, shiftBy, shiftRo, hlen, d1Fr, mxL])
        · simp
      | cons x todo =>
        left
        have hlt : done.length < l.length := by rw [← hd]; simp
        have hget : l[done.length]? = some x := by rw [← hd]; simp
        have hltI : (done.length : Int) < (l.length : Int) := by omega
        have e : IntKind.i64.wrap ((done.length : Int) + 1) = (done.length : Int) + 1 := wrap_i64 (by omega) (by omega)
        refine ⟨((if m < x then x else m), done ++ [x], todo), by simpa using hd, ?_, by simp [mxL], by simp⟩
        apply Run.seq
        · (refine ⟨0, ?_⟩; conv => lhs; simp -implicitDefEqProofs [-getElem?_pos, List.getElem?_cons_zero, List.getElem?_cons_succ, exec, runOps, dstOk, wantedV, AM.step, evalT, evalO, evalArgs, evalParts, getF, putF, afterRegion, assignV, boxOf, newBox, hasIdsP, keepF, ofVal, ofCell, plen, pesz, callV, builtinV, lenV, binV, unV, arith, shiftI, loadV, storeV, putV, indexAddrV, live, upd, pget, pset, psetA, pagg, retag, retagP, byteAV, freezeP, freezeV, joinTags, joinTag, tags, ids, scalar, cellsLen, eqV, convV, faV, fvV, shiftBy, shiftRo, hltI, d1Fr])
        apply Run.seq
        · (refine ⟨0, ?_⟩; conv => lhs; simp -implicitDefEqProofs [-getElem?_pos, List.getElem?_cons_zero, List.getElem?_cons_succ, exec, runOps, dstOk, wantedV, AM.step, evalT, evalO, evalArgs, evalParts, getF, putF, afterRegion, assignV, boxOf, newBox, hasIdsP, keepF, ofVal, ofCell, plen, pesz, callV, builtinV, lenV, binV, unV, arith, shiftI, loadV, storeV, putV, indexAddrV, live, upd, pget, pset, psetA, pagg, retag, retagP, byteAV, freezeP, freezeV, joinTags, joinTag, tags, ids, scalar, cellsLen, eqV, convV, faV, fvV, shiftBy, shiftRo, hget, hlt, minmax])
        · (refine ⟨0, ?_⟩; simp -implicitDefEqProofs [-getElem?_pos, List.getElem?_cons_zero, List.getElem?_cons_succ, exec, runOps, dstOk, wantedV, AM.step, evalT, evalO, evalArgs, evalParts, getF, putF, afterRegion, assignV, boxOf, newBox, hasIdsP, keepF, ofVal, ofCell, plen, pesz, callV, builtinV, lenV, binV, unV, arith, shiftI, loadV, storeV, putV, indexAddrV, live, upd, pget, pset, psetA, pagg, retag, retagP, byteAV, freezeP, freezeV, joinTags, joinTag, tags, ids, scalar, cellsLen, eqV, convV, faV, fvV, shiftBy, shiftRo, e, d1Fr])
  have hm := mxL_bound l 0 (by omega) (by omega) hf
  unfold decR
  generalize hmm : mxL 0 l = m at hm ⊢
  apply Run.seq
  · (refine ⟨0, ?_⟩; conv => lhs; simp -implicitDefEqProofs [-getElem?_pos, List.getElem?_cons_zero, List.getElem?_cons_succ, exec, runOps, dstOk, wantedV, AM.step, evalT, evalO, evalArgs, evalParts, getF, putF, afterRegion, assignV, boxOf, newBox, hasIdsP, keepF, ofVal, ofCell, plen, pesz, callV, builtinV, lenV, binV, unV, arith, shiftI, loadV, storeV, putV, indexAddrV, live, upd, pget, pset, psetA, pagg, retag, retagP, byteAV, freezeP, freezeV, joinTags, joinTag, tags, ids, scalar, cellsLen, eqV, convV, faV, fvV, shiftBy, shiftRo, d1Fr])
  refine seqB_pred (P := d2P l codes b a m.toNat 1 0) (fr1 := d2Fr c c2 c3 l codes b a m 0 1) (H1 := []) ?_ (loop_pred (σ := Nat × Nat × Int) (fun t => t.1 + t.2.1 = m.toNat + 1 ∧ 0 < t.2.1 ∧ 0 ≤ t.2.2 ∧ t.2.2 < 2 ^ (t.2.1 - 1)) (fun t => d2Fr c c2 c3 l codes b a m t.2.2 t.2.1) (fun _ => []) (fun t => d2P l codes b a t.1 t.2.1 t.2.2) (fun t => t.1) ?_ (m.toNat, 1, 0) ⟨rfl, by simp, by simp, by simp⟩) ?_
  · (refine ⟨0, ?_⟩; simp -implicitDefEqProofs [-getElem?_pos, List.getElem?_cons_zero, List.getElem?_cons_succ, exec, runOps, dstOk, wantedV, AM.step, evalT, evalO, evalArgs, evalParts, getF, putF, afterRegion, assignV, boxOf, newBox, hasIdsP, keepF, ofVal, ofCell, plen, pesz, callV, builtinV, lenV, binV, unV, arith, shiftI, loadV, storeV, putV, indexAddrV, live, upd, pget, pset, psetA, pagg, retag, retagP, byteAV, freezeP, freezeV, joinTags, joinTag, tags, ids, scalar, cellsLen, eqV, convV, faV, fvV, shiftBy, shiftRo, d2Fr])
  · rintro ⟨k, i, code⟩ ⟨hk, hi0, hc0, hc1⟩
    simp only at hk hi0 hc0 hc1 ⊢
    cases k with
    | zero =>
      have hgt : ¬ ((i : Int) ≤ m) := by omega
      refine ⟨⟨.exit 2, d2Fr c c2 c3 l codes b a m code i ++ [(30, .bool false)], []⟩, ?_, .inr ⟨by simp, .inl ⟨rfl, _, rfl⟩⟩⟩
      apply Run.seq_out
      · (refine ⟨0, ?_⟩; simp -implicitDefEqProofs [-getElem?_pos, List.getElem?_cons_zero, List.getElem?_cons_succ, exec, runOps, dstOk, wantedV, AM.step, evalT, evalO, evalArgs, evalParts, getF, putF, afterRegion, assignV, boxOf, newBox, hasIdsP, keepF, ofVal, ofCell, plen, pesz, callV, builtinV, lenV, binV, unV, arith, shiftI, loadV, storeV, putV, indexAddrV, live, upd, pget, pset, psetA, pagg, retag, retagP, byteAV, freezeP, freezeV, joinTags, joinTag, tags, ids, scalar, cellsLen, eqV, convV, faV, fvV, shiftBy, shiftRo, d2Fr, hgt])
      · simp
    | succ k =>
      have hle : ((i : Int) ≤ m) := by omega
      have hp : (2 : Int) ^ (i - 1) ≤ 2 ^ 14 := by
        have := Nat.pow_le_pow_right (n := 2) (by omega) (show i - 1 ≤ 14 by omega)
        exact_mod_cast this
      have w1 : IntKind.i64.wrap (8 * (b.length : Int)) = 8 * (b.length : Int) := wrap_i64 (by omega) (by omega)
      have w2 : IntKind.i64.wrap (8 * (b.length : Int) - (i : Int)) = 8 * (b.length : Int) - (i : Int) := wrap_i64 (by omega) (by omega)
      by_cases hs : 8 * (b.length : Int) - (i : Int) < a
      · refine ⟨⟨.ret, [(8, .int .i64 0), (9, .int .i64 0), (10, .int .i64 4)], []⟩, ?_, .inr ⟨by simp, .inr (by simp [decL, hs])⟩⟩
        apply Run.seq
        · (refine ⟨0, ?_⟩; conv => lhs; simp -implicitDefEqProofs [-getElem?_pos, List.getElem?_cons_zero, List.getElem?_cons_succ, exec, runOps, dstOk, wantedV, AM.step, evalT, evalO, evalArgs, evalParts, getF, putF, afterRegion, assignV, boxOf, newBox, hasIdsP, keepF, ofVal, ofCell, plen, pesz, callV, builtinV, lenV, binV, unV, arith, shiftI, loadV, storeV, putV, indexAddrV, live, upd, pget, pset, psetA, pagg, retag, retagP, byteAV, freezeP, freezeV, joinTags, joinTag, tags, ids, scalar, cellsLen, eqV, convV, faV, fvV, shiftBy, shiftRo, d2Fr, hle])
        apply Run.seq_out
        · (refine ⟨0, ?_⟩; simp -implicitDefEqProofs [-getElem?_pos, List.getElem?_cons_zero, List.getElem?_cons_succ, exec, runOps, dstOk, wantedV, AM.step, evalT, evalO, evalArgs, evalParts, getF, putF, afterRegion, assignV, boxOf, newBox, hasIdsP, keepF, ofVal, ofCell, plen, pesz, callV, builtinV, lenV, binV, unV, arith, shiftI, loadV, storeV, putV, indexAddrV, live, upd, pget, pset, psetA, pagg, retag, retagP, byteAV, freezeP, freezeV, joinTags, joinTag, tags, ids, scalar, cellsLen, eqV, convV, faV, fvV, shiftBy, shiftRo, w1, w2, hs])
        · simp
      · have hb2 := rbit_two b (a + i - 1)
        have hT := T7_bit (H := []) (a := .ro c3 (.pb b) 3) (b := b) (i := ((a + i - 1 : Nat) : Int)) rfl (by omega) (by omega) (by omega)
        have w3 : IntKind.i64.wrap (2 * code) = 2 * code := wrap_i64 (by omega) (by omega)
        have w4 : IntKind.i64.wrap ((a : Int) + (i : Int)) = (a : Int) + (i : Int) := wrap_i64 (by omega) (by omega)
        have w5 : IntKind.i64.wrap ((a : Int) + (i : Int) - 1) = ((a + i - 1 : Nat) : Int) := by rw [wrap_i64 (by omega) (by omega)]; omega
        rw [show (((a + i - 1 : Nat) : Int)).toNat = a + i - 1 by omega] at hT
        have hdec : decL l codes b a (k + 1) i code = match findJ i (2 * code + rbit b (a + i - 1)) l codes 0 with
            | some j => (j, i, 0)
            | none => decL l codes b a k (i + 1) (2 * code + rbit b (a + i - 1)) := by
          conv => lhs; unfold decL
          rw [if_neg hs]
        have hcode1 : 2 * code + rbit b (a + i - 1) < 2 ^ i := by
          have : (2 : Int) ^ i = 2 * 2 ^ (i - 1) := by
            conv => lhs; rw [show i = (i - 1) + 1 by omega]
            rw [Int.pow_succ]; omega
          omega
        have hcode0 : 0 ≤ 2 * code + rbit b (a + i - 1) := by omega
        have w6 : IntKind.i64.wrap (2 * code + rbit b (a + i - 1)) = 2 * code + rbit b (a + i - 1) := wrap_i64 (by omega) (by omega)
        generalize hcd : 2 * code + rbit b (a + i - 1) = code' at *
        have hw : IntKind.i64.wrap ((i : Int) + 1) = (i : Int) + 1 := wrap_i64 (by omega) (by omega)
        refine ⟨match findJ i code' l codes 0 with
            | some j => ⟨.ret, [(8, .int .i64 (j : Nat)), (9, .int .i64 (i : Nat)), (10, .int .i64 0)], []⟩
            | none => ⟨.normal, d2Fr c c2 c3 l codes b a m code' (i + 1), []⟩, ?_, ?_⟩
        · apply Run.seq
          · (refine ⟨0, ?_⟩; conv => lhs; simp -implicitDefEqProofs [-getElem?_pos, List.getElem?_cons_zero, List.getElem?_cons_succ, exec, runOps, dstOk, wantedV, AM.step, evalT, evalO, evalArgs, evalParts, getF, putF, afterRegion, assignV, boxOf, newBox, hasIdsP, keepF, ofVal, ofCell, plen, pesz, callV, builtinV, lenV, binV, unV, arith, shiftI, loadV, storeV, putV, indexAddrV, live, upd, pget, pset, psetA, pagg, retag, retagP, byteAV, freezeP, freezeV, joinTags, joinTag, tags, ids, scalar, cellsLen, eqV, convV, faV, fvV, shiftBy, shiftRo, d2Fr, hle])
          apply Run.seq' (o := match findJ i code' l codes 0 with
            | some j => ⟨.ret, [(8, .int .i64 (j : Nat)), (9, .int .i64 (i : Nat)), (10, .int .i64 0)], []⟩
            | none => ⟨.normal, d3Fr c c2 c3 l codes b a m code' i l.length ++ [(52, .bool false)], []⟩)
          · have e : (match findJ i code' l codes 0 with
              | some j => ⟨.ret, [(8, .int .i64 (j : Nat)), (9, .int .i64 (i : Nat)), (10, .int .i64 0)], []⟩
              | none => ⟨.normal, d3Fr c c2 c3 l codes b a m code' i l.length ++ [(52, .bool false)], []⟩ : AM.Out) = blockOut 4 (d3O c c2 c3 l codes b a m code' i (findJ i code' l codes 0)) := by
              cases findJ i code' l codes 0 <;> simp [d3O, blockOut]
            rw [e]
            apply Run.block
            · apply Run.seq
              · (refine ⟨0, ?_⟩; conv => lhs; simp -implicitDefEqProofs [-getElem?_pos, List.getElem?_cons_zero, List.getElem?_cons_succ, exec, runOps, dstOk, wantedV, AM.step, evalT, evalO, evalArgs, evalParts, getF, putF, afterRegion, assignV, boxOf, newBox, hasIdsP, keepF, ofVal, ofCell, plen, pesz, callV, builtinV, lenV, binV, unV, arith, shiftI, loadV, storeV, putV, indexAddrV, live, upd, pget, pset, psetA, pagg, retag, retagP, byteAV, freezeP, freezeV, joinTags, joinTag, tags, ids, scalar, cellsLen, eqV, convV, faV, fvV, shiftBy, shiftRo, w1, w2, hs])
              apply Run.seq
              · (refine ⟨0, ?_⟩; conv => lhs; simp -implicitDefEqProofs [-getElem?_pos, List.getElem?_cons_zero, List.getElem?_cons_succ, exec, runOps, dstOk, wantedV, AM.step, evalT, evalO, evalArgs, evalParts, getF, putF, afterRegion, assignV, boxOf, newBox, hasIdsP, keepF, ofVal, ofCell, plen, pesz, callV, builtinV, lenV, binV, unV, arith, shiftI, loadV, storeV, putV, indexAddrV, live, upd, pget, pset, psetA, pagg, retag, retagP, byteAV, freezeP, freezeV, joinTags, joinTag, tags, ids, scalar, cellsLen, eqV, convV, faV, fvV, shiftBy, shiftRo, w3, w4, w5, hT, hcd, w6])
              apply Run.seq (fr' := d3Fr c c2 c3 l codes b a m code' i 0) (H' := [])
              · (refine ⟨0, ?_⟩; simp -implicitDefEqProofs [-getElem?_pos, List.getElem?_cons_zero, List.getElem?_cons_succ, exec, runOps, dstOk, wantedV, AM.step, evalT, evalO, evalArgs, evalParts, getF, putF, afterRegion, assignV, boxOf, newBox, hasIdsP, keepF, ofVal, ofCell, plen, pesz, callV, builtinV, lenV, binV, unV, arith, shiftI, loadV, storeV, putV, indexAddrV, live, upd, pget, pset, psetA, pagg, retag, retagP, byteAV, freezeP, freezeV, joinTags, joinTag, tags, ids, scalar, cellsLen, eqV, convV, faV, fvV, shiftBy, shiftRo, d3Fr])
              apply Run.block'
              refine Run.loop_rule (σ := (List Int × List Int) × (List Int × List Int)) (fun t => t.1.1 ++ t.1.2 = l ∧ t.2.1 ++ t.2.2 = codes ∧ t.1.1.length = t.2.1.length) (fun t => d3Fr c c2 c3 l codes b a m code' i t.1.1.length) (fun _ => []) (fun t => d3O c c2 c3 l codes b a m code' i (findJ i code' t.1.2 t.2.2 t.1.1.length)) (fun t => t.1.2.length) ?_ (([], l), ([], codes)) ⟨rfl, rfl, rfl⟩
              rintro ⟨⟨dl, tl⟩, ⟨dc, tc⟩⟩ ⟨hd, hd2, hdd⟩
              simp only at hd hd2 hdd ⊢
              have hll : dl.length + tl.length = l.length := by rw [← hd]; simp
              have hcc : dc.length + tc.length = codes.length := by rw [← hd2]; simp
              cases tl with
              | nil =>
                right
                have hlen : dl.length = l.length := by simpa using hll
                refine ⟨?_, by simp [d3O, findJ]⟩
                simp only [d3O, findJ]
                apply Run.seq_out
                · (refine ⟨0, ?_⟩; simp -implicitDefEqProofs [-getElem?_pos, List.getElem?_cons_zero, List.getElem?_cons_succ, exec, runOps, dstOk, wantedV, AM.step, evalT, evalO, evalArgs, evalParts, getF, putF, afterRegion, assignV, boxOf, newBox, hasIdsP, keepF, ofVal, ofCell, plen, pesz, callV, builtinV, lenV, binV, unV, arith, shiftI, loadV, storeV, putV, indexAddrV, live, upd, pget, pset, psetA, pagg, retag, retagP, byteAV, freezeP, freezeV, joinTags, joinTag, tags, ids, scalar, cellsLen, eqV, convV, faV, fvV, shiftBy, shiftRo, hlen, d3Fr])
                · simp
              | cons x tl =>
                simp only [List.length_cons] at hll
                cases tc with
                | nil => simp at hcc; omega
                | cons y tc =>
                  have hlt : dl.length < l.length := by omega
                  have hlt2 : dl.length < codes.length := by omega
                  have hget : l[dl.length]? = some x := by rw [← hd]; simp
                  have hget2 : codes[dl.length]? = some y := by rw [← hd2, hdd]; simp
                  have hltI : (dl.length : Int) < (l.length : Int) := by omega
                  have e1 : IntKind.i64.wrap ((dl.length : Int) + 1) = (dl.length : Int) + 1 := wrap_i64 (by omega) (by omega)
                  by_cases hxy : x = (i : Int) ∧ y = code'
                  · right
                    refine ⟨?_, by simp [d3O, findJ, hxy]⟩
                    simp only [d3O, findJ, hxy, and_self, if_true]
                    obtain ⟨rfl, rfl⟩ := hxy
                    apply Run.seq
                    · (refine ⟨0, ?_⟩; conv => lhs; simp -implicitDefEqProofs [-getElem?_pos, List.getElem?_cons_zero, List.getElem?_cons_succ, exec, runOps, dstOk, wantedV, AM.step, evalT, evalO, evalArgs, evalParts, getF, putF, afterRegion, assignV, boxOf, newBox, hasIdsP, keepF, ofVal, ofCell, plen, pesz, callV, builtinV, lenV, binV, unV, arith, shiftI, loadV, storeV, putV, indexAddrV, live, upd, pget, pset, psetA, pagg, retag, retagP, byteAV, freezeP, freezeV, joinTags, joinTag, tags, ids, scalar, cellsLen, eqV, convV, faV, fvV, shiftBy, shiftRo, hltI, d3Fr])
                    apply Run.seq_out
                    · (refine ⟨0, ?_⟩; simp -implicitDefEqProofs [-getElem?_pos, List.getElem?_cons_zero, List.getElem?_cons_succ, exec, runOps, dstOk, wantedV, AM.step, evalT, evalO, evalArgs, evalParts, getF, putF, afterRegion, assignV, boxOf, newBox, hasIdsP, keepF, ofVal, ofCell, plen, pesz, callV, builtinV, lenV, binV, unV, arith, shiftI, loadV, storeV, putV, indexAddrV, live, upd, pget, pset, psetA, pagg, retag, retagP, byteAV, freezeP, freezeV, joinTags, joinTag, tags, ids, scalar, cellsLen, eqV, convV, faV, fvV, shiftBy, shiftRo, hget, hget2, hlt, hlt2])
                    · simp
                  · left
                    refine ⟨((dl ++ [x], tl), (dc ++ [y], tc)), ⟨by simpa using hd, by simpa using hd2, by simp [hdd]⟩, ?_, by simp [findJ, hxy], by simp⟩
                    by_cases hx : x = (i : Int)
                    · have hy : ¬ y = code' := fun h => hxy ⟨hx, h⟩
                      apply Run.seq
                      · (refine ⟨0, ?_⟩; conv => lhs; simp -implicitDefEqProofs [-getElem?_pos, List.getElem?_cons_zero, List.getElem?_cons_succ, exec, runOps, dstOk, wantedV, AM.step, evalT, evalO, evalArgs, evalParts, getF, putF, afterRegion, assignV, boxOf, newBox, hasIdsP, keepF, ofVal, ofCell, plen, pesz, callV, builtinV, lenV, binV, unV, arith, shiftI, loadV, storeV, putV, indexAddrV, live, upd, pget, pset, psetA, pagg, retag, retagP, byteAV, freezeP, freezeV, joinTags, joinTag, tags, ids, scalar, cellsLen, eqV, convV, faV, fvV, shiftBy, shiftRo, hltI, d3Fr])
                      apply Run.seq
                      · (refine ⟨0, ?_⟩; conv => lhs; simp -implicitDefEqProofs [-getElem?_pos, List.getElem?_cons_zero, List.getElem?_cons_succ, exec, runOps, dstOk, wantedV, AM.step, evalT, evalO, evalArgs, evalParts, getF, putF, afterRegion, assignV, boxOf, newBox, hasIdsP, keepF, ofVal, ofCell, plen, pesz, callV, builtinV, lenV, binV, unV, arith, shiftI, loadV, storeV, putV, indexAddrV, live, upd, pget, pset, psetA, pagg, retag, retagP, byteAV, freezeP, freezeV, joinTags, joinTag, tags, ids, scalar, cellsLen, eqV, convV, faV, fvV, shiftBy, shiftRo, hget, hget2, hlt, hlt2, hx, hy])
                      · (refine ⟨0, ?_⟩; simp -implicitDefEqProofs [-getElem?_pos, List.getElem?_cons_zero, List.getElem?_cons_succ, exec, runOps, dstOk, wantedV, AM.step, evalT, evalO, evalArgs, evalParts, getF, putF, afterRegion, assignV, boxOf, newBox, hasIdsP, keepF, ofVal, ofCell, plen, pesz, callV, builtinV, lenV, binV, unV, arith, shiftI, loadV, storeV, putV, indexAddrV, live, upd, pget, pset, psetA, pagg, retag, retagP, byteAV, freezeP, freezeV, joinTags, joinTag, tags, ids, scalar, cellsLen, eqV, convV, faV, fvV, shiftBy, shiftRo, e1, d3Fr])
                    · have hxb : (x == (i : Int)) = false := by simpa using hx
                      apply Run.seq
                      · (refine ⟨0, ?_⟩; conv => lhs; simp -implicitDefEqProofs [-getElem?_pos, List.getElem?_cons_zero, List.getElem?_cons_succ, exec, runOps, dstOk, wantedV, AM.step, evalT, evalO, evalArgs, evalParts, getF, putF, afterRegion, assignV, boxOf, newBox, hasIdsP, keepF, ofVal, ofCell, plen, pesz, callV, builtinV, lenV, binV, unV, arith, shiftI, loadV, storeV, putV, indexAddrV, live, upd, pget, pset, psetA, pagg, retag, retagP, byteAV, freezeP, freezeV, joinTags, joinTag, tags, ids, scalar, cellsLen, eqV, convV, faV, fvV, shiftBy, shiftRo, hltI, d3Fr])
                      apply Run.seq
                      · (refine ⟨0, ?_⟩; conv => lhs; simp -implicitDefEqProofs [-getElem?_pos, List.getElem?_cons_zero, List.getElem?_cons_succ, exec, runOps, dstOk, wantedV, AM.step, evalT, evalO, evalArgs, evalParts, getF, putF, afterRegion, assignV, boxOf, newBox, hasIdsP, keepF, ofVal, ofCell, plen, pesz, callV, builtinV, lenV, binV, unV, arith, shiftI, loadV, storeV, putV, indexAddrV, live, upd, pget, pset, psetA, pagg, retag, retagP, byteAV, freezeP, freezeV, joinTags, joinTag, tags, ids, scalar, cellsLen, eqV, convV, faV, fvV, shiftBy, shiftRo, hget, hget2, hlt, hlt2, hx, hxb])
                      · (refine ⟨0, ?_⟩; simp -implicitDefEqProofs [-getElem?_pos, List.getElem?_cons_zero, List.getElem?_cons_succ, exec, runOps, dstOk, wantedV, AM.step, evalT, evalO, evalArgs, evalParts, getF, putF, afterRegion, assignV, boxOf, newBox, hasIdsP, keepF, ofVal, ofCell, plen, pesz, callV, builtinV, lenV, binV, unV, arith, shiftI, loadV, storeV, putV, indexAddrV, live, upd, pget, pset, psetA, pagg, retag, retagP, byteAV, freezeP, freezeV, joinTags, joinTag, tags, ids, scalar, cellsLen, eqV, convV, faV, fvV, shiftBy, shiftRo, e1, d3Fr])
            · cases findJ i code' l codes 0 <;> simp [d3O, blockOut]
          · intro fr' H' h
            split at h
            · simp at h
            · simp only [Out.mk.injEq, true_and] at h
              obtain ⟨rfl, rfl⟩ := h
              (refine ⟨0, ?_⟩; simp -implicitDefEqProofs [-getElem?_pos, List.getElem?_cons_zero, List.getElem?_cons_succ, exec, runOps, dstOk, wantedV, AM.step, evalT, evalO, evalArgs, evalParts, getF, putF, afterRegion, assignV, boxOf, newBox, hasIdsP, keepF, ofVal, ofCell, plen, pesz, callV, builtinV, lenV, binV, unV, arith, shiftI, loadV, storeV, putV, indexAddrV, live, upd, pget, pset, psetA, pagg, retag, retagP, byteAV, freezeP, freezeV, joinTags, joinTag, tags, ids, scalar, cellsLen, eqV, convV, faV, fvV, shiftBy, shiftRo, d3Fr, d2Fr, hw])
          · intro h
            split at h
            · rfl
            · simp at h
        · cases hfj : findJ i code' l codes 0 with
          | some j => exact .inr ⟨by simp, .inr (by rw [hdec, hfj])⟩
          | none =>
            refine .inl ⟨(k, i + 1, code'), ⟨by simp; omega, by simp, hcode0, by simpa using hcode1⟩, rfl, ?_, by simp⟩
            intro o' h
            simp only [d2P] at h ⊢
            rw [hdec, hfj]
            exact h
  · intro o ho
    rcases ho with ⟨e, fr', rfl⟩ | rfl
    · refine .inl ⟨fr', [], rfl, ?_⟩
      rw [e]
      refine ⟨0, ?_⟩
      simp -implicitDefEqProofs [-getElem?_pos, List.getElem?_cons_zero, List.getElem?_cons_succ, exec, runOps, dstOk, wantedV, AM.step, evalT, evalO, evalArgs, evalParts, getF, putF, afterRegion, assignV, boxOf, newBox, hasIdsP, keepF, ofVal, ofCell, plen, pesz, callV, builtinV, lenV, binV, unV, arith, shiftI, loadV, storeV, putV, indexAddrV, live, upd, pget, pset, psetA, pagg, retag, retagP, byteAV, freezeP, freezeV, joinTags, joinTag, tags, ids, scalar, cellsLen, eqV, convV, faV, fvV, shiftBy, shiftRo]
    · exact .inr ⟨rfl, by simp⟩

end Go.Proofs.Ytikleidhmekgnaa
