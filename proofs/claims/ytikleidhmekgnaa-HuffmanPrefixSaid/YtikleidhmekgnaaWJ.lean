/- Walks: the document's Read and All. -/
import Derived.Test.YtikleidhmekgnaaWI
namespace Go.Proofs.Ytikleidhmekgnaa
open Go.AM
set_option linter.unusedSimpArgs false
set_option linter.unusedVariables false

def t3 (r : Int × Int × Int) : AV := .tup [.int .i64 r.1, .int .i64 r.2.1, .int .i64 r.2.2]

theorem decode_ev (c c2 c3 : Nat) (l codes : List Int) (b : List UInt8) (a : Nat) (hl : l.length ≤ 320) (hf : fine l = true) (hc : codes.length = l.length) (hb : b.length ≤ 100000) (ha : a < 9223372036854775808) :
    Ev1 X 25 [.ro c (.pi .i64 l) 1, .ro c2 (.pi .i64 codes) 2, .ro c3 (.pb b) 3, .int .i64 (a : Nat)] [] (t3 (decR l codes b a), []) := by
  obtain ⟨code, hbo, hr⟩ := decode_code c c2 c3 l codes b a hl hf hc hb ha
  exact Ev1.plain (l := [.int .i64 (decR l codes b a).1, .int .i64 (decR l codes b a).2.1, .int .i64 (decR l codes b a).2.2]) T7_below Try.func25 hbo rfl rfl (by simp [gtag]) hr (.inr rfl) rfl rfl rfl

def S8 (f : Nat) (xs : List AV) : Option (AV × AM.Heap) :=
  match f, xs with
  | 25, [.ro _ (.pi .i64 l) 1, .ro _ (.pi .i64 codes) 2, .ro _ (.pb b) 3, .int .i64 a] => if l.length ≤ 320 ∧ fine l = true ∧ codes.length = l.length ∧ b.length ≤ 100000 ∧ 0 ≤ a ∧ a < 9223372036854775808 then some (t3 (decR l codes b a.toNat), []) else .none
  | f, xs => S7 f xs

theorem S8_ok : ∀ f xs v N, S8 f xs = some (v, N) → Ev1 X f xs [] (v, N) := by
  intro f xs v N h
  unfold S8 at h
  split at h
  · rename_i c l c2 codes c3 b a
    split at h
    · rename_i hl
      simp only [Option.some.injEq, Prod.mk.injEq] at h
      obtain ⟨rfl, rfl⟩ := h
      have := decode_ev c c2 c3 l codes b a.toNat hl.1 hl.2.1 hl.2.2.1 hl.2.2.2.1 (by omega)
      rwa [show ((a.toNat : Nat) : Int) = a by omega] at this
    · cases h
  · exact S7_ok _ _ _ _ h

noncomputable def T8 : Cf := lentT X S8
theorem T8_below : Below X T8 := lentT_below S8_ok

theorem T8_codes {H : AM.Heap} {a : AV} {l : List Int} (h : payOf H a = some (.pi .i64 l)) (hl : l.length < 9223372036854775808) (he : (rcheckR l).2 = 0) : T8 16 [a] H = some (.tup [.sl H.length 0 l.length 0, .int .i64 0], H ++ [rowI l.length (rcodesR l)]) := by
  obtain ⟨c, x, hx⟩ := args_pay (C := X) (f := 16) (i := 0) rfl h (args_nil 1)
  unfold T8 lentT
  rw [hx]
  simp [S8, S7, S5, hl, he, okV, rowI, idsL, ids, cleanV, cleanH, tags, tagsL, shiftV, shiftH, shiftN, ren, renL, renObj]

theorem T8_bad {H : AM.Heap} {a : AV} {l : List Int} (h : payOf H a = some (.pi .i64 l)) (hl : l.length < 9223372036854775808) (he : (rcheckR l).2 ≠ 0) : T8 16 [a] H = some (.tup [.sl H.length 0 0 0, .int .i64 (rcheckR l).2], H ++ [nilI]) := by
  obtain ⟨c, x, hx⟩ := args_pay (C := X) (f := 16) (i := 0) rfl h (args_nil 1)
  unfold T8 lentT
  rw [hx]
  simp [S8, S7, S5, hl, he, badV, nilI, idsL, ids, cleanV, cleanH, tags, tagsL, shiftV, shiftH, shiftN, ren, renL, renObj]

theorem T8_decode {H : AM.Heap} {a1 a2 a3 : AV} {l codes : List Int} {b : List UInt8} {a : Int} (h1 : payOf H a1 = some (.pi .i64 l)) (h2 : payOf H a2 = some (.pi .i64 codes)) (h3 : payOf H a3 = some (.pb b))
    (hl : l.length ≤ 320) (hf : fine l = true) (hc : codes.length = l.length) (hb : b.length ≤ 100000) (ha0 : 0 ≤ a) (ha : a < 9223372036854775808) :
    T8 25 [a1, a2, a3, .int .i64 a] H = some (t3 (decR l codes b a.toNat), H) := by
  have hx4 := args_flat (C := X) (f := 25) (i := 3) (a := .int .i64 a) (H := H) rfl rfl (args_nil 4)
  obtain ⟨c3, x3, hx3⟩ := args_pay (C := X) (f := 25) (i := 2) rfl h3 hx4
  obtain ⟨c2, x2, hx2⟩ := args_pay (C := X) (f := 25) (i := 1) rfl h2 hx3
  obtain ⟨c, x, hx⟩ := args_pay (C := X) (f := 25) (i := 0) rfl h1 hx2
  unfold T8 lentT
  rw [hx]
  simp [S8, t3, hl, hf, hc, hb, ha0, ha, idsL, ids, cleanV, cleanH, tags, tagsL, shiftV, shiftH, ren, renL]

/-- the document's Read -/
def rreadR (l : List Int) (b : List UInt8) (a : Int) : Int × Int × Int :=
  if (rcheckR l).2 = 0 then (if a < 0 then (0, 0, 2) else decR l (rcodesR l) b a.toNat) else (0, 0, (rcheckR l).2)

set_option maxRecDepth 100000 in
theorem rread_code (c c2 : Nat) (l : List Int) (b : List UInt8) (a : Int) (h63 : l.length < 9223372036854775808) (hb : b.length ≤ 100000) (ha : a < 9223372036854775808) : ∃ code, Try.f18.body = some code ∧ ∃ H,
    Run X T8 18 0 code [(0, .ro c (.pi .i64 l) 1), (1, .ro c2 (.pb b) 2), (2, .int .i64 a)] []
      ⟨.ret, [(6, .int .i64 (rreadR l b a).1), (7, .int .i64 (rreadR l b a).2.1), (8, .int .i64 (rreadR l b a).2.2)], H⟩ := by
  refine ⟨_, rfl, ?_⟩
  unfold rreadR
  by_cases he : (rcheckR l).2 = 0
  · rw [if_pos he]
    obtain ⟨hl, hf⟩ := rcheck_fine he
    have hT := T8_codes (H := []) (a := .ro c (.pi .i64 l) 1) rfl h63 he
    have hcl := rcodesR_len l
    by_cases h0 : a < 0
    · rw [if_pos h0]
      refine ⟨[rowI l.length (rcodesR l)], 0, ?_⟩
      simp -implicitDefEqProofs [-getElem?_pos, List.getElem?_cons_zero, List.getElem?_cons_succ, exec, runOps, dstOk, wantedV, AM.step, evalT, evalO, evalArgs, evalParts, getF, putF, afterRegion, assignV, boxOf, newBox, hasIdsP, keepF, ofVal, ofCell, plen, pesz, callV, builtinV, lenV, binV, unV, arith, shiftI, loadV, storeV, putV, indexAddrV, live, upd, pget, pset, psetA, pagg, retag, retagP, byteAV, freezeP, freezeV, joinTags, joinTag, tags, ids, scalar, cellsLen, eqV, convV, faV, fvV, shiftBy, shiftRo, hT, h0]
    · rw [if_neg h0]
      generalize rcodesR l = codes at hT hcl ⊢
      have hD := T8_decode (H := [rowI l.length codes]) (a1 := .ro c (.pi .i64 l) 1) (a2 := .sl 0 0 l.length 0) (a3 := .ro c2 (.pb b) 2) (codes := codes) (a := a) rfl (by simp [payOf, live, rowI, psub, ← hcl]) rfl hl hf hcl hb (by omega) ha
      generalize decR l codes b a.toNat = r at hD ⊢
      unfold t3 at hD
      refine ⟨[rowI l.length codes], 0, ?_⟩
      simp -implicitDefEqProofs [-getElem?_pos, List.getElem?_cons_zero, List.getElem?_cons_succ, exec, runOps, dstOk, wantedV, AM.step, evalT, evalO, evalArgs, evalParts, getF, putF, afterRegion, assignV, boxOf, newBox, hasIdsP, keepF, ofVal, ofCell, plen, pesz, callV, builtinV, lenV, binV, unV, arith, shiftI, loadV, storeV, putV, indexAddrV, live, upd, pget, pset, psetA, pagg, retag, retagP, byteAV, freezeP, freezeV, joinTags, joinTag, tags, ids, scalar, cellsLen, eqV, convV, faV, fvV, shiftBy, shiftRo, hT, h0, hD]
  · rw [if_neg he]
    have hT := T8_bad (H := []) (a := .ro c (.pi .i64 l) 1) rfl h63 he
    have heb : ((rcheckR l).2 != 0) = true := by simpa using he
    refine ⟨[nilI], 0, ?_⟩
    simp -implicitDefEqProofs [-getElem?_pos, List.getElem?_cons_zero, List.getElem?_cons_succ, exec, runOps, dstOk, wantedV, AM.step, evalT, evalO, evalArgs, evalParts, getF, putF, afterRegion, assignV, boxOf, newBox, hasIdsP, keepF, ofVal, ofCell, plen, pesz, callV, builtinV, lenV, binV, unV, arith, shiftI, loadV, storeV, putV, indexAddrV, live, upd, pget, pset, psetA, pagg, retag, retagP, byteAV, freezeP, freezeV, joinTags, joinTag, tags, ids, scalar, cellsLen, eqV, convV, faV, fvV, shiftBy, shiftRo, hT, he, heb]

theorem decL_spec (l codes : List Int) (b : List UInt8) (a : Nat) : ∀ (k i : Nat) (code : Int), (decL l codes b a k i code).2.2 = 0 → (i : Int) ≤ (decL l codes b a k i code).2.1 ∧ (a : Int) + (decL l codes b a k i code).2.1 ≤ 8 * b.length
  | 0, i, code => by simp [decL]
  | k + 1, i, code => by
    unfold decL
    split
    · simp
    · split
      · intro _; simp; omega
      · intro h
        have := decL_spec l codes b a k (i + 1) _ h
        omega

theorem decR_spec (l codes : List Int) (b : List UInt8) (a : Nat) (h : (decR l codes b a).2.2 = 0) : 1 ≤ (decR l codes b a).2.1 ∧ (a : Int) + (decR l codes b a).2.1 ≤ 8 * b.length := decL_spec l codes b a _ 1 0 h

/-- k symbols read, on from a bits -/
def rallL (l codes : List Int) (b : List UInt8) : Nat → List Int → Nat → List Int × Int × Int
  | 0, out, a => (out, a, 0)
  | k + 1, out, a => if (decR l codes b a).2.2 = 0 then rallL l codes b k (out ++ [(decR l codes b a).1]) (a + (decR l codes b a).2.1.toNat) else ([], 0, (decR l codes b a).2.2)

/-- the document's All -/
def rallR (l : List Int) (b : List UInt8) (n : Int) : List Int × Int × Int :=
  if (rcheckR l).2 = 0 then (if n < 0 then ([], 0, 2) else rallL l (rcodesR l) b n.toNat [] 0) else ([], 0, (rcheckR l).2)

def obI (l : List Int) : Option AM.Obj := some { p := .pi .i64 l, g := l.length, cap := .none, z := if l.length ≤ 1 then 0 else 1, row := true, ids := false, tg := 0 }

theorem bsI (H : AM.Heap) (x : Int) : buildSliceV X H 25 1 [(0, .int .i64 x)] = some (.ro 1 (.pi .i64 [x]) 0, H) := by kernel_rfl

end Go.Proofs.Ytikleidhmekgnaa
