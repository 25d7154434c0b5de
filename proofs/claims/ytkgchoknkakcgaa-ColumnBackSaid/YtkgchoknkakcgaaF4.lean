/- Walks: the document's reader of fields: texts, bytes 0. -/
import Derived.Test.YtkgchoknkakcgaaF1
import Derived.Test.YtkgchoknkakcgaaL4
namespace Go.Proofs.Ytkgchoknkakcgaa
open Go.AM
set_option linter.unusedSimpArgs false
set_option linter.unusedVariables false

/-- a counted text off what is left -/
def rtF (s : St) : List UInt8 × St := if s.2 ≠ 0 then ([], s) else ((rdT s.1).1, s.1.drop (rdT s.1).2.1, (rdT s.1).2.2)
/-- n bytes 0 off what is left -/
def zrS (n : Nat) (s : St) : St := ((fx n s).2.1, wr ((bts n s).any (· != 0)) (fx n s).2.2)

theorem rdT_bad {b : List UInt8} (h : (rdT b).2.2 ≠ 0) : (rdT b).1 = [] ∧ (rdT b).2.1 = 0 := by
  unfold rdT at h ⊢
  split
  · exact ⟨rfl, rfl⟩
  · rename_i h1
    rw [if_neg h1] at h
    split
    · exact ⟨rfl, rfl⟩
    · rename_i h2
      rw [if_neg h2] at h
      exact absurd rfl h

theorem rdT_le' (b : List UInt8) : (rdT b).2.1 ≤ b.length := by
  by_cases h : (rdT b).2.2 = 0
  · exact (rdT_le h).1
  · rw [(rdT_bad h).2]; omega

theorem rtF_nil {c : Nat} {s : St} (h : c = 0 → s.1 = []) : c = 0 → (rtF s).2.1 = [] := by
  intro hc
  have := h hc
  unfold rtF; split
  · exact this
  · simp [this]
theorem rtF_len (s : St) : (rtF s).2.1.length ≤ s.1.length := by
  unfold rtF; split
  · exact Nat.le_refl _
  · simp

section
variable (c t tg : Nat) (s : St)

set_option maxRecDepth 100000 in
theorem ftext_code (hc : c = 0 → s.1 = []) (hb : s.1.length ≤ 90000000) : ∃ code, Try.f23.body = some code ∧
    Run X (evT X) 23 1 code [(0, .ptr 0 0 0 0)] [some (rdO c t tg s)] ⟨.ret, [(2, .str (rtF s).1)], [some (rdO c t tg (rtF s).2)]⟩ := by
  refine ⟨_, rfl, 0, ?_⟩
  obtain ⟨b, e⟩ := s
  simp only at hb
  unfold rtF
  by_cases he : e = 0
  · subst he
    rw [if_neg (by simp)]
    have hR := rreadText_ev (H := [some (rdO c t tg (b, 0))]) (a := .ro c (.pb b) t) (b := b) (Byt.ro (.inl rfl) hc) hb
    have hle := rdT_le' b
    have hs1 := fun H => slFrom0 (t := t) hc hle H
    generalize rdT b = r at *
    obtain ⟨x, n, e⟩ := r
    simp only at hR hle hs1 ⊢
    simp only [rdO] at hR
    simp (maxSteps := 2000000) -implicitDefEqProofs [-getElem?_pos, List.getElem?_cons_zero, List.getElem?_cons_succ, exec, runOps, dstOk, wantedV, AM.step, evalT, evalO, evalArgs, evalParts, getF, putF, afterRegion, assignV, boxOf, newBox, hasIdsP, keepF, ofVal, ofCell, plen, pesz, callV, builtinV, lenV, binV, unV, arith, shiftI, loadV, storeV, putV, indexAddrV, live, upd, pget, pset, psetA, pagg, retag, retagP, byteAV, freezeP, freezeV, joinTags, joinTag, tags, ids, scalar, cellsLen, eqV, convV, faV, fvV, shiftBy, shiftRo, rdO, hR, hs1]
  · rw [if_pos (by simpa using he)]
    have heb : (e != 0) = true := by simpa using he
    simp (maxSteps := 2000000) -implicitDefEqProofs [-getElem?_pos, List.getElem?_cons_zero, List.getElem?_cons_succ, exec, runOps, dstOk, wantedV, AM.step, evalT, evalO, evalArgs, evalParts, getF, putF, afterRegion, assignV, boxOf, newBox, hasIdsP, keepF, ofVal, ofCell, plen, pesz, callV, builtinV, lenV, binV, unV, arith, shiftI, loadV, storeV, putV, indexAddrV, live, upd, pget, pset, psetA, pagg, retag, retagP, byteAV, freezeP, freezeV, joinTags, joinTag, tags, ids, scalar, cellsLen, eqV, convV, faV, fvV, shiftBy, shiftRo, rdO, he, heb]

end

theorem ftext_ev {H : AM.Heap} {o c t tg : Nat} {s : St} (ho : H[o]? = some (some (rdO c t tg s))) (hj : joinTags (tagsOb (rdO c t tg s)) = some t) (hc : c = 0 → s.1 = []) (hb : s.1.length ≤ 90000000) :
    evT X 23 [.ptr o 0 0 0] H = some (.str (rtF s).1, upd H o (some (rdO c t t (rtF s).2))) := by
  obtain ⟨code, hcode, hr⟩ := ftext_code c 2 2 s hc hb
  have := Ev1.box (C := X) (f := 23) (H := H) (o := o) (g := 0) (ob := rdO c t tg s) (ob1 := rdO c 2 2 (rtF s).2) (xs := []) (ys := []) (n := 2) (t := t) (rest := [])
    (l := [.str (rtF s).1]) (evT_below X) Try.func23 hcode rfl ho rfl rfl (args_nil 1) rfl rfl rfl (by simp [gtag]) hj hr (.inr rfl) rfl rfl rfl rfl rfl
    (by intro k hk; right; simpa [resultV, tags, tagsOb, rdO, tagsL] using hk) (.inr rfl)
  exact evT_eq (by simpa [rdO, ren, renL, bk, resultV] using this)

def zrFr (n len i : Nat) (bad : Bool) : AM.Frame := [(0, .ptr 0 0 0 0), (1, .int .i64 (n : Nat)), (4, .sl 1 0 len 0), (5, .bool bad), (6, .int .i64 (i : Nat))]

theorem take_any {l : List UInt8} {i : Nat} {y : UInt8} (h : l[i]? = some y) : (l.take (i + 1)).any (· != 0) = ((l.take i).any (· != 0) || (y != 0)) := by
  rw [take_snoc h]; simp

section
variable (c t : Nat) (s : St) (n : Nat)

set_option maxRecDepth 100000 in
theorem zeros_code (hc : c = 0 → s.1 = []) (hn : n ≤ 1000) : ∃ code, Try.f29.body = some code ∧ ∃ ob fr,
    Run X (evT X) 29 1 code [(0, .ptr 0 0 0 0), (1, .int .i64 (n : Nat))] [some (rdO c t t s)] ⟨.normal, fr, [some (rdO c t t (zrS n s)), some ob]⟩ := by
  refine ⟨_, rfl, ?_⟩
  obtain ⟨ob, hw, hB⟩ := bytes_ev (H := [some (rdO c t t s)]) (o := 0) (n := n) (N := n) rfl rfl (jt c t s) hc (by omega)
  have q2 := bts_len n s
  unfold zrS
  generalize bts n s = l at *
  generalize fx n s = r at *
  have hW := wrong_ev (H := [some (rdO c t t r.2), some ob]) (o := 0) (k := t) (p := .pb r.2.1) (l := r.2.1) (e := r.2.2) (bad := l.any (· != 0)) rfl (.inl rfl) (by simp [tagsOb, bxO, tags, tagsL, joinTags, joinTag]; omega)
  refine ⟨ob, [], ?_⟩
  apply Run.seq (fr' := [(0, .ptr 0 0 0 0), (1, .int .i64 (n : Nat)), (4, .sl 1 0 n 0)]) (H' := [some (rdO c t t r.2), some ob])
  · simp only [rdO] at hB
    (refine ⟨0, ?_⟩; simp (maxSteps := 2000000) -implicitDefEqProofs [-getElem?_pos, List.getElem?_cons_zero, List.getElem?_cons_succ, exec, runOps, dstOk, wantedV, AM.step, evalT, evalO, evalArgs, evalParts, getF, putF, afterRegion, assignV, boxOf, newBox, hasIdsP, keepF, ofVal, ofCell, plen, pesz, callV, builtinV, lenV, binV, unV, arith, shiftI, loadV, storeV, putV, indexAddrV, live, upd, pget, pset, psetA, pagg, retag, retagP, byteAV, freezeP, freezeV, joinTags, joinTag, tags, ids, scalar, cellsLen, eqV, convV, faV, fvV, shiftBy, shiftRo, rdO, hB, assignV])
  apply Run.seq
  · (refine ⟨0, ?_⟩; conv => lhs; simp (maxSteps := 2000000) -implicitDefEqProofs [-getElem?_pos, List.getElem?_cons_zero, List.getElem?_cons_succ, exec, runOps, dstOk, wantedV, AM.step, evalT, evalO, evalArgs, evalParts, getF, putF, afterRegion, assignV, boxOf, newBox, hasIdsP, keepF, ofVal, ofCell, plen, pesz, callV, builtinV, lenV, binV, unV, arith, shiftI, loadV, storeV, putV, indexAddrV, live, upd, pget, pset, psetA, pagg, retag, retagP, byteAV, freezeP, freezeV, joinTags, joinTag, tags, ids, scalar, cellsLen, eqV, convV, faV, fvV, shiftBy, shiftRo])
  apply Run.seq (fr' := zrFr n n n (l.any (· != 0)) ++ [(12, .bool false)]) (H' := [some (rdO c t t r.2), some ob])
  · apply Run.seq (fr' := zrFr n n 0 false) (H' := [some (rdO c t t r.2), some ob])
    · (refine ⟨0, ?_⟩; simp (maxSteps := 2000000) -implicitDefEqProofs [-getElem?_pos, List.getElem?_cons_zero, List.getElem?_cons_succ, exec, runOps, dstOk, wantedV, AM.step, evalT, evalO, evalArgs, evalParts, getF, putF, afterRegion, assignV, boxOf, newBox, hasIdsP, keepF, ofVal, ofCell, plen, pesz, callV, builtinV, lenV, binV, unV, arith, shiftI, loadV, storeV, putV, indexAddrV, live, upd, pget, pset, psetA, pagg, retag, retagP, byteAV, freezeP, freezeV, joinTags, joinTag, tags, ids, scalar, cellsLen, eqV, convV, faV, fvV, shiftBy, shiftRo, zrFr])
    apply Run.block_exit
    refine Run.loop_rule (σ := Nat) (fun i => i ≤ n) (fun i => zrFr n n i ((l.take i).any (· != 0))) (fun _ => [some (rdO c t t r.2), some ob]) (fun _ => ⟨.exit 0, zrFr n n n (l.any (· != 0)) ++ [(12, .bool false)], [some (rdO c t t r.2), some ob]⟩) (fun i => n - i) ?_ 0 (Nat.zero_le _)
    intro i hi
    simp only
    by_cases hin : i = n
    · right
      refine ⟨?_, by simp⟩
      subst hin
      have : l.take i = l := List.take_of_length_le (by omega)
      rw [this]
      generalize l.any (· != 0) = bad at *
      (refine ⟨0, ?_⟩; simp (maxSteps := 2000000) -implicitDefEqProofs [-getElem?_pos, List.getElem?_cons_zero, List.getElem?_cons_succ, exec, runOps, dstOk, wantedV, AM.step, evalT, evalO, evalArgs, evalParts, getF, putF, afterRegion, assignV, boxOf, newBox, hasIdsP, keepF, ofVal, ofCell, plen, pesz, callV, builtinV, lenV, binV, unV, arith, shiftI, loadV, storeV, putV, indexAddrV, live, upd, pget, pset, psetA, pagg, retag, retagP, byteAV, freezeP, freezeV, joinTags, joinTag, tags, ids, scalar, cellsLen, eqV, convV, faV, fvV, shiftBy, shiftRo, zrFr])
    · left
      have hlt : i < n := by omega
      have hiI : (i : Int) < (n : Int) := by omega
      have hy : l[i]? = some l[i] := List.getElem?_eq_getElem (by omega)
      generalize l[i] = y at *
      have w1 : IntKind.i64.wrap ((i : Int) + 1) = ((i + 1 : Nat) : Int) := by rw [wrap_i64 (by omega) (by omega)]; omega
      refine ⟨i + 1, by omega, ?_, trivial, by omega⟩
      rw [take_any hy]
      have hg := hw.g
      have hp := hw.p
      have hids := hw.ids
      have htg := hw.tg
      cases hb : (l.take i).any (· != 0) with
      | true => (refine ⟨0, ?_⟩; simp (maxSteps := 2000000) -implicitDefEqProofs [-getElem?_pos, List.getElem?_cons_zero, List.getElem?_cons_succ, exec, runOps, dstOk, wantedV, AM.step, evalT, evalO, evalArgs, evalParts, getF, putF, afterRegion, assignV, boxOf, newBox, hasIdsP, keepF, ofVal, ofCell, plen, pesz, callV, builtinV, lenV, binV, unV, arith, shiftI, loadV, storeV, putV, indexAddrV, live, upd, pget, pset, psetA, pagg, retag, retagP, byteAV, freezeP, freezeV, joinTags, joinTag, tags, ids, scalar, cellsLen, eqV, convV, faV, fvV, shiftBy, shiftRo, zrFr, hiI, w1])
      | false =>
        have hyb : ((y.toNat : Int) != 0) = (y != 0) := by
          rw [Bool.eq_iff_iff]
          simp only [bne_iff_ne, ne_eq]
          constructor
          · intro h h2; exact h (by rw [h2]; rfl)
          · intro h h2; exact h (UInt8.toNat_inj.1 (by simpa using h2))
        (refine ⟨0, ?_⟩; simp (maxSteps := 2000000) -implicitDefEqProofs [-getElem?_pos, List.getElem?_cons_zero, List.getElem?_cons_succ, exec, runOps, dstOk, wantedV, AM.step, evalT, evalO, evalArgs, evalParts, getF, putF, afterRegion, assignV, boxOf, newBox, hasIdsP, keepF, ofVal, ofCell, plen, pesz, callV, builtinV, lenV, binV, unV, arith, shiftI, loadV, storeV, putV, indexAddrV, live, upd, pget, pset, psetA, pagg, retag, retagP, byteAV, freezeP, freezeV, joinTags, joinTag, tags, ids, scalar, cellsLen, eqV, convV, faV, fvV, shiftBy, shiftRo, zrFr, hiI, hlt, hg, hp, hids, htg, hy, hyb, w1])
  simp only [bxO, rdO] at hW ⊢
  generalize l.any (· != 0) = bad at *
  refine ⟨0, ?_⟩
  simp (maxSteps := 2000000) -implicitDefEqProofs [-getElem?_pos, List.getElem?_cons_zero, List.getElem?_cons_succ, exec, runOps, dstOk, wantedV, AM.step, evalT, evalO, evalArgs, evalParts, getF, putF, afterRegion, assignV, boxOf, newBox, hasIdsP, keepF, ofVal, ofCell, plen, pesz, callV, builtinV, lenV, binV, unV, arith, shiftI, loadV, storeV, putV, indexAddrV, live, upd, pget, pset, psetA, pagg, retag, retagP, byteAV, freezeP, freezeV, joinTags, joinTag, tags, ids, scalar, cellsLen, eqV, convV, faV, fvV, shiftBy, shiftRo, zrFr, hW, upd]

end

theorem zeros_ev {H : AM.Heap} {o c t tg n : Nat} {N : Int} {s : St} (hN : N = (n : Nat)) (ho : H[o]? = some (some (rdO c t tg s))) (hj : joinTags (tagsOb (rdO c t tg s)) = some t) (hc : c = 0 → s.1 = []) (hn : n ≤ 1000) :
    evT X 29 [.ptr o 0 0 0, .int .i64 N] H = some (.tup [], upd H o (some (rdO c t t (zrS n s)))) := by
  subst hN
  obtain ⟨code, hcode, ob, fr, hr⟩ := zeros_code c 3 s n hc hn
  have := Ev1.box (C := X) (f := 29) (H := H) (o := o) (g := 0) (ob := rdO c t tg s) (ob1 := rdO c 3 3 (zrS n s)) (xs := [.int .i64 (n : Nat)]) (ys := [.int .i64 (n : Nat)]) (n := 3) (t := t) (rest := [some ob])
    (l := []) (evT_below X) Try.func29 hcode rfl ho rfl rfl (args_flat rfl rfl (args_nil 2)) rfl rfl rfl (by simp [gtag]) hj hr (.inl rfl) rfl rfl rfl rfl rfl
    (by intro k hk; right; simpa [resultV, noTups, tags, tagsOb, rdO, tagsL] using hk) (.inr rfl)
  exact evT_eq (by simpa [rdO, ren, renL, bk, resultV, noTups] using this)

end Go.Proofs.Ytkgchoknkakcgaa
