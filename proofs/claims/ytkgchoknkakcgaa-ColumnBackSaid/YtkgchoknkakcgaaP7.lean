/- Walks: the column reader's texts and demands; counts read. -/
import Derived.Test.YtkgchoknkakcgaaP1
import Derived.Test.YtkgchoknkakcgaaL4
import Derived.Test.YtkgchoknkakcgaaF1
namespace Go.Proofs.Ytkgchoknkakcgaa
open Go.AM
set_option linter.unusedSimpArgs false
set_option linter.unusedVariables false

/-- what reading a text tells, with its bound -/
def txE (s : St) : Int := if (rdT s.1).2.2 = 0 ∧ 255 < (rdT s.1).1.length then 5 else (rdT s.1).2.2
/-- a text off what is left -/
def tx (s : St) : List UInt8 × St := if s.2 ≠ 0 then ([], s) else if txE s ≠ 0 then ([], s.1, txE s) else ((rdT s.1).1, s.1.drop (rdT s.1).2.1, 0)
/-- a demand -/
def ms (bad : Bool) (s : St) : St := (s.1, wr bad s.2)

section
variable (c t tg : Nat) (s : St) (bad : Bool)

set_option maxRecDepth 100000 in
theorem text_code (hc : c = 0 → s.1 = []) (hb : s.1.length ≤ 90000000) : ∃ code, Try.f20.body = some code ∧
    Run X (evT X) 20 1 code [(0, .ptr 0 0 0 0)] [some (rdO c t tg s)] ⟨.ret, [(2, .str (tx s).1)], [some (rdO c t tg (tx s).2)]⟩ := by
  refine ⟨_, rfl, 0, ?_⟩
  obtain ⟨b, e⟩ := s
  simp only at hb
  unfold tx txE
  by_cases he : e = 0
  · subst he
    rw [if_neg (by simp)]
    have hR := readText_ev (H := [some (rdO c t tg (b, 0))]) (a := .ro c (.pb b) t) (b := b) (Byt.ro (.inl rfl) hc) hb
    have hle := rdT_le (b := b)
    generalize rdT b = r at *
    obtain ⟨x, n, e⟩ := r
    simp only at hR hle ⊢
    simp only [rdO] at hR
    by_cases h0 : e = 0
    · subst h0
      by_cases hx : 255 < x.length
      · have hxi : (255 : Int) < (x.length : Int) := by omega
        have E : (if (0 : Int) = 0 ∧ 255 < x.length then (5 : Int) else 0) = 5 := if_pos ⟨rfl, hx⟩
        rw [E, if_pos (by simp)]
        simp (maxSteps := 2000000) -implicitDefEqProofs [-getElem?_pos, List.getElem?_cons_zero, List.getElem?_cons_succ, exec, runOps, dstOk, wantedV, AM.step, evalT, evalO, evalArgs, evalParts, getF, putF, afterRegion, assignV, boxOf, newBox, hasIdsP, keepF, ofVal, ofCell, plen, pesz, callV, builtinV, lenV, binV, unV, arith, shiftI, loadV, storeV, putV, indexAddrV, live, upd, pget, pset, psetA, pagg, retag, retagP, byteAV, freezeP, freezeV, joinTags, joinTag, tags, ids, scalar, cellsLen, eqV, convV, faV, fvV, shiftBy, shiftRo, rdO, hR, hxi]
      · have hxi : ¬ (255 : Int) < (x.length : Int) := by omega
        have E : (if (0 : Int) = 0 ∧ 255 < x.length then (5 : Int) else 0) = 0 := if_neg (fun h => hx h.2)
        rw [E, if_neg (by simp)]
        have hs1 := fun H => slFrom0 (t := t) hc (hle rfl).1 H
        simp (maxSteps := 2000000) -implicitDefEqProofs [-getElem?_pos, List.getElem?_cons_zero, List.getElem?_cons_succ, exec, runOps, dstOk, wantedV, AM.step, evalT, evalO, evalArgs, evalParts, getF, putF, afterRegion, assignV, boxOf, newBox, hasIdsP, keepF, ofVal, ofCell, plen, pesz, callV, builtinV, lenV, binV, unV, arith, shiftI, loadV, storeV, putV, indexAddrV, live, upd, pget, pset, psetA, pagg, retag, retagP, byteAV, freezeP, freezeV, joinTags, joinTag, tags, ids, scalar, cellsLen, eqV, convV, faV, fvV, shiftBy, shiftRo, rdO, hR, hxi, hs1]
    · have h0b : (e != 0) = true := by simpa using h0
      have h0c : (e == 0) = false := by simpa using h0
      have E : (if e = 0 ∧ 255 < x.length then (5 : Int) else e) = e := if_neg (fun h => h0 h.1)
      rw [E, if_pos h0]
      simp (maxSteps := 2000000) -implicitDefEqProofs [-getElem?_pos, List.getElem?_cons_zero, List.getElem?_cons_succ, exec, runOps, dstOk, wantedV, AM.step, evalT, evalO, evalArgs, evalParts, getF, putF, afterRegion, assignV, boxOf, newBox, hasIdsP, keepF, ofVal, ofCell, plen, pesz, callV, builtinV, lenV, binV, unV, arith, shiftI, loadV, storeV, putV, indexAddrV, live, upd, pget, pset, psetA, pagg, retag, retagP, byteAV, freezeP, freezeV, joinTags, joinTag, tags, ids, scalar, cellsLen, eqV, convV, faV, fvV, shiftBy, shiftRo, rdO, hR, h0, h0b, h0c]
  · rw [if_pos (by simpa using he)]
    have heb : (e != 0) = true := by simpa using he
    simp (maxSteps := 2000000) -implicitDefEqProofs [-getElem?_pos, List.getElem?_cons_zero, List.getElem?_cons_succ, exec, runOps, dstOk, wantedV, AM.step, evalT, evalO, evalArgs, evalParts, getF, putF, afterRegion, assignV, boxOf, newBox, hasIdsP, keepF, ofVal, ofCell, plen, pesz, callV, builtinV, lenV, binV, unV, arith, shiftI, loadV, storeV, putV, indexAddrV, live, upd, pget, pset, psetA, pagg, retag, retagP, byteAV, freezeP, freezeV, joinTags, joinTag, tags, ids, scalar, cellsLen, eqV, convV, faV, fvV, shiftBy, shiftRo, rdO, he, heb]

set_option maxRecDepth 100000 in
theorem must_code : ∃ code, Try.f19.body = some code ∧ ∃ fr,
    Run X (evT X) 19 1 code [(0, .ptr 0 0 0 0), (1, .bool (!bad))] [some (rdO c t tg s)] ⟨.normal, fr, [some (rdO c t tg (ms bad s))]⟩ := by
  refine ⟨_, rfl, ?_⟩
  obtain ⟨b, e⟩ := s
  unfold ms wr
  by_cases he : e = 0
  · subst he
    cases bad
    · refine ⟨[(0, .ptr 0 0 0 0), (12, .bool false)], 0, ?_⟩
      simp (maxSteps := 2000000) -implicitDefEqProofs [-getElem?_pos, List.getElem?_cons_zero, List.getElem?_cons_succ, exec, runOps, dstOk, wantedV, AM.step, evalT, evalO, evalArgs, evalParts, getF, putF, afterRegion, assignV, boxOf, newBox, hasIdsP, keepF, ofVal, ofCell, plen, pesz, callV, builtinV, lenV, binV, unV, arith, shiftI, loadV, storeV, putV, indexAddrV, live, upd, pget, pset, psetA, pagg, retag, retagP, byteAV, freezeP, freezeV, joinTags, joinTag, tags, ids, scalar, cellsLen, eqV, convV, faV, fvV, shiftBy, shiftRo, rdO, unV]
    · refine ⟨[], 0, ?_⟩
      simp (maxSteps := 2000000) -implicitDefEqProofs [-getElem?_pos, List.getElem?_cons_zero, List.getElem?_cons_succ, exec, runOps, dstOk, wantedV, AM.step, evalT, evalO, evalArgs, evalParts, getF, putF, afterRegion, assignV, boxOf, newBox, hasIdsP, keepF, ofVal, ofCell, plen, pesz, callV, builtinV, lenV, binV, unV, arith, shiftI, loadV, storeV, putV, indexAddrV, live, upd, pget, pset, psetA, pagg, retag, retagP, byteAV, freezeP, freezeV, joinTags, joinTag, tags, ids, scalar, cellsLen, eqV, convV, faV, fvV, shiftBy, shiftRo, rdO, unV]
  · simp only
    rw [if_neg (fun h => he h.1)]
    have heb : (e == 0) = false := by simpa using he
    refine ⟨[(0, .ptr 0 0 0 0), (12, .bool false)], 0, ?_⟩
    simp (maxSteps := 2000000) -implicitDefEqProofs [-getElem?_pos, List.getElem?_cons_zero, List.getElem?_cons_succ, exec, runOps, dstOk, wantedV, AM.step, evalT, evalO, evalArgs, evalParts, getF, putF, afterRegion, assignV, boxOf, newBox, hasIdsP, keepF, ofVal, ofCell, plen, pesz, callV, builtinV, lenV, binV, unV, arith, shiftI, loadV, storeV, putV, indexAddrV, live, upd, pget, pset, psetA, pagg, retag, retagP, byteAV, freezeP, freezeV, joinTags, joinTag, tags, ids, scalar, cellsLen, eqV, convV, faV, fvV, shiftBy, shiftRo, rdO, heb, unV]

end

theorem text_ev {H : AM.Heap} {o c t tg : Nat} {s : St} (ho : H[o]? = some (some (rdO c t tg s))) (hc : c = 0 → s.1 = []) (hb : s.1.length ≤ 90000000) :
    evT X 20 [.ptr o 0 0 0] H = some (.str (tx s).1, upd H o (some (rdO c t t (tx s).2))) := by
  obtain ⟨code, hcode, hr⟩ := text_code c 2 2 s hc hb
  have := Ev1.box (C := X) (f := 20) (H := H) (o := o) (g := 0) (ob := rdO c t tg s) (ob1 := rdO c 2 2 (tx s).2) (xs := []) (ys := []) (n := 2) (t := t) (rest := [])
    (l := [.str (tx s).1]) (evT_below X) Try.func20 hcode rfl ho rfl rfl (args_nil 1) rfl rfl rfl (by simp [gtag]) (by simp [tagsOb, rdO, tags, tagsL, joinTags, joinTag]; omega) hr (.inr rfl) rfl rfl rfl rfl rfl
    (by intro k hk; right; simpa [resultV, tags, tagsOb, rdO, tagsL] using hk) (.inr rfl)
  exact evT_eq (by simpa [rdO, ren, renL, bk, resultV] using this)

theorem must_ev {H : AM.Heap} {o c t tg : Nat} {s : St} {is bad : Bool} (hi : is = !bad) (ho : H[o]? = some (some (rdO c t tg s))) :
    evT X 19 [.ptr o 0 0 0, .bool is] H = some (.tup [], upd H o (some (rdO c t t (ms bad s)))) := by
  subst hi
  obtain ⟨code, hcode, fr, hr⟩ := must_code c 3 3 s bad
  have := Ev1.box (C := X) (f := 19) (H := H) (o := o) (g := 0) (ob := rdO c t tg s) (ob1 := rdO c 3 3 (ms bad s)) (xs := [.bool (!bad)]) (ys := [.bool (!bad)]) (n := 3) (t := t) (rest := [])
    (l := []) (evT_below X) Try.func19 hcode rfl ho rfl rfl (args_flat rfl rfl (args_nil 2)) rfl rfl rfl (by simp [gtag]) (by simp [tagsOb, rdO, tags, tagsL, joinTags, joinTag]; omega) hr (.inl rfl) rfl rfl rfl rfl rfl
    (by intro k hk; right; simpa [resultV, noTups, tags, tagsOb, rdO, tagsL] using hk) (.inr rfl)
  exact evT_eq (by simpa [rdO, ren, renL, bk, resultV, noTups] using this)

/-- a count read -/
def rcR (b : List UInt8) : Int × Int := if (rdI b).2.2 ≠ 0 then (0, (rdI b).2.2) else if (rdI b).1 < 1 ∨ 4096 < (rdI b).1 ∨ (rdI b).2.1 ≠ szI (rdI b).1 ∨ (rdI b).2.1 ≠ b.length then (0, 5) else (((rdI b).1 : Nat), 0)

section
variable (c : Nat) (b : List UInt8)

set_option maxRecDepth 100000 in
theorem readCount_code (hc : c = 0 → b = []) (hb : b.length ≤ 90000000) : ∃ code, Try.f9.body = some code ∧
    Run X (evT X) 9 0 code [(0, .ro c (.pb b) 1)] [] ⟨.ret, [(2, .int .i64 (rcR b).1), (3, .int .i64 (rcR b).2)], []⟩ := by
  refine ⟨_, rfl, 0, ?_⟩
  have hI := readInt_ev (H := []) (a := .ro c (.pb b) 1) (b := b) (Byt.ro (.inl rfl) hc) hb
  unfold rcR
  generalize rdI b = r at *
  obtain ⟨x, m, e⟩ := r
  simp only at hI ⊢
  have hS := fun H => size_ev x H
  by_cases he : e = 0
  · subst he
    rw [if_neg (by simp)]
    by_cases h1 : x < 1
    · rw [if_pos (.inl h1)]
      have h1i : (x : Int) < 1 := by omega
      simp (maxSteps := 2000000) -implicitDefEqProofs [-getElem?_pos, List.getElem?_cons_zero, List.getElem?_cons_succ, exec, runOps, dstOk, wantedV, AM.step, evalT, evalO, evalArgs, evalParts, getF, putF, afterRegion, assignV, boxOf, newBox, hasIdsP, keepF, ofVal, ofCell, plen, pesz, callV, builtinV, lenV, binV, unV, arith, shiftI, loadV, storeV, putV, indexAddrV, live, upd, pget, pset, psetA, pagg, retag, retagP, byteAV, freezeP, freezeV, joinTags, joinTag, tags, ids, scalar, cellsLen, eqV, convV, faV, fvV, shiftBy, shiftRo, hI, h1i]
    have h1i : ¬ (x : Int) < 1 := by omega
    by_cases h2 : 4096 < x
    · rw [if_pos (.inr (.inl h2))]
      have h2i : (4096 : Int) < (x : Int) := by omega
      simp (maxSteps := 2000000) -implicitDefEqProofs [-getElem?_pos, List.getElem?_cons_zero, List.getElem?_cons_succ, exec, runOps, dstOk, wantedV, AM.step, evalT, evalO, evalArgs, evalParts, getF, putF, afterRegion, assignV, boxOf, newBox, hasIdsP, keepF, ofVal, ofCell, plen, pesz, callV, builtinV, lenV, binV, unV, arith, shiftI, loadV, storeV, putV, indexAddrV, live, upd, pget, pset, psetA, pagg, retag, retagP, byteAV, freezeP, freezeV, joinTags, joinTag, tags, ids, scalar, cellsLen, eqV, convV, faV, fvV, shiftBy, shiftRo, hI, h1i, h2i]
    have h2i : ¬ (4096 : Int) < (x : Int) := by omega
    by_cases h3 : m = szI x
    case neg =>
      rw [if_pos (.inr (.inr (.inl h3)))]
      have h3i : ((m : Int) != (szI x : Nat)) = true := by simp; omega
      simp (maxSteps := 2000000) -implicitDefEqProofs [-getElem?_pos, List.getElem?_cons_zero, List.getElem?_cons_succ, exec, runOps, dstOk, wantedV, AM.step, evalT, evalO, evalArgs, evalParts, getF, putF, afterRegion, assignV, boxOf, newBox, hasIdsP, keepF, ofVal, ofCell, plen, pesz, callV, builtinV, lenV, binV, unV, arith, shiftI, loadV, storeV, putV, indexAddrV, live, upd, pget, pset, psetA, pagg, retag, retagP, byteAV, freezeP, freezeV, joinTags, joinTag, tags, ids, scalar, cellsLen, eqV, convV, faV, fvV, shiftBy, shiftRo, hI, h1i, h2i, hS, h3i]
    have h3i : ((m : Int) != (szI x : Nat)) = false := by simp; omega
    by_cases h4 : m = b.length
    case neg =>
      rw [if_pos (.inr (.inr (.inr h4)))]
      have h4i : ((m : Int) != (b.length : Nat)) = true := by simp; omega
      simp (maxSteps := 2000000) -implicitDefEqProofs [-getElem?_pos, List.getElem?_cons_zero, List.getElem?_cons_succ, exec, runOps, dstOk, wantedV, AM.step, evalT, evalO, evalArgs, evalParts, getF, putF, afterRegion, assignV, boxOf, newBox, hasIdsP, keepF, ofVal, ofCell, plen, pesz, callV, builtinV, lenV, binV, unV, arith, shiftI, loadV, storeV, putV, indexAddrV, live, upd, pget, pset, psetA, pagg, retag, retagP, byteAV, freezeP, freezeV, joinTags, joinTag, tags, ids, scalar, cellsLen, eqV, convV, faV, fvV, shiftBy, shiftRo, hI, h1i, h2i, hS, h3i, h4i]
    have h4i : ((m : Int) != (b.length : Nat)) = false := by simp; omega
    rw [if_neg (by omega)]
    have w3 : IntKind.i64.wrap (x : Int) = (x : Int) := wrap_i64 (by omega) (by omega)
    simp (maxSteps := 2000000) -implicitDefEqProofs [-getElem?_pos, List.getElem?_cons_zero, List.getElem?_cons_succ, exec, runOps, dstOk, wantedV, AM.step, evalT, evalO, evalArgs, evalParts, getF, putF, afterRegion, assignV, boxOf, newBox, hasIdsP, keepF, ofVal, ofCell, plen, pesz, callV, builtinV, lenV, binV, unV, arith, shiftI, loadV, storeV, putV, indexAddrV, live, upd, pget, pset, psetA, pagg, retag, retagP, byteAV, freezeP, freezeV, joinTags, joinTag, tags, ids, scalar, cellsLen, eqV, convV, faV, fvV, shiftBy, shiftRo, hI, h1i, h2i, hS, h3i, h4i, w3]
  · have heb : (e != 0) = true := by simpa using he
    rw [if_pos he]
    simp (maxSteps := 2000000) -implicitDefEqProofs [-getElem?_pos, List.getElem?_cons_zero, List.getElem?_cons_succ, exec, runOps, dstOk, wantedV, AM.step, evalT, evalO, evalArgs, evalParts, getF, putF, afterRegion, assignV, boxOf, newBox, hasIdsP, keepF, ofVal, ofCell, plen, pesz, callV, builtinV, lenV, binV, unV, arith, shiftI, loadV, storeV, putV, indexAddrV, live, upd, pget, pset, psetA, pagg, retag, retagP, byteAV, freezeP, freezeV, joinTags, joinTag, tags, ids, scalar, cellsLen, eqV, convV, faV, fvV, shiftBy, shiftRo, hI, he, heb]

set_option maxRecDepth 100000 in
theorem rreadCount_code (hc : c = 0 → b = []) (hb : b.length ≤ 90000000) : ∃ code, Try.f10.body = some code ∧
    Run X (evT X) 10 0 code [(0, .ro c (.pb b) 1)] [] ⟨.ret, [(2, .int .i64 (rcR b).1), (3, .int .i64 (rcR b).2)], []⟩ := by
  refine ⟨_, rfl, 0, ?_⟩
  have hI := rreadInt_ev (H := []) (a := .ro c (.pb b) 1) (b := b) (Byt.ro (.inl rfl) hc) hb
  unfold rcR
  generalize rdI b = r at *
  obtain ⟨x, m, e⟩ := r
  simp only at hI ⊢
  have hS := fun H => rsize_ev x H
  by_cases he : e = 0
  · subst he
    rw [if_neg (by simp)]
    by_cases h1 : x < 1
    · rw [if_pos (.inl h1)]
      have h1i : (x : Int) < 1 := by omega
      simp (maxSteps := 2000000) -implicitDefEqProofs [-getElem?_pos, List.getElem?_cons_zero, List.getElem?_cons_succ, exec, runOps, dstOk, wantedV, AM.step, evalT, evalO, evalArgs, evalParts, getF, putF, afterRegion, assignV, boxOf, newBox, hasIdsP, keepF, ofVal, ofCell, plen, pesz, callV, builtinV, lenV, binV, unV, arith, shiftI, loadV, storeV, putV, indexAddrV, live, upd, pget, pset, psetA, pagg, retag, retagP, byteAV, freezeP, freezeV, joinTags, joinTag, tags, ids, scalar, cellsLen, eqV, convV, faV, fvV, shiftBy, shiftRo, hI, h1i]
    have h1i : ¬ (x : Int) < 1 := by omega
    by_cases h2 : 4096 < x
    · rw [if_pos (.inr (.inl h2))]
      have h2i : (4096 : Int) < (x : Int) := by omega
      simp (maxSteps := 2000000) -implicitDefEqProofs [-getElem?_pos, List.getElem?_cons_zero, List.getElem?_cons_succ, exec, runOps, dstOk, wantedV, AM.step, evalT, evalO, evalArgs, evalParts, getF, putF, afterRegion, assignV, boxOf, newBox, hasIdsP, keepF, ofVal, ofCell, plen, pesz, callV, builtinV, lenV, binV, unV, arith, shiftI, loadV, storeV, putV, indexAddrV, live, upd, pget, pset, psetA, pagg, retag, retagP, byteAV, freezeP, freezeV, joinTags, joinTag, tags, ids, scalar, cellsLen, eqV, convV, faV, fvV, shiftBy, shiftRo, hI, h1i, h2i]
    have h2i : ¬ (4096 : Int) < (x : Int) := by omega
    by_cases h3 : m = szI x
    case neg =>
      rw [if_pos (.inr (.inr (.inl h3)))]
      have h3i : ((m : Int) != (szI x : Nat)) = true := by simp; omega
      simp (maxSteps := 2000000) -implicitDefEqProofs [-getElem?_pos, List.getElem?_cons_zero, List.getElem?_cons_succ, exec, runOps, dstOk, wantedV, AM.step, evalT, evalO, evalArgs, evalParts, getF, putF, afterRegion, assignV, boxOf, newBox, hasIdsP, keepF, ofVal, ofCell, plen, pesz, callV, builtinV, lenV, binV, unV, arith, shiftI, loadV, storeV, putV, indexAddrV, live, upd, pget, pset, psetA, pagg, retag, retagP, byteAV, freezeP, freezeV, joinTags, joinTag, tags, ids, scalar, cellsLen, eqV, convV, faV, fvV, shiftBy, shiftRo, hI, h1i, h2i, hS, h3i]
    have h3i : ((m : Int) != (szI x : Nat)) = false := by simp; omega
    by_cases h4 : m = b.length
    case neg =>
      rw [if_pos (.inr (.inr (.inr h4)))]
      have h4i : ((m : Int) != (b.length : Nat)) = true := by simp; omega
      simp (maxSteps := 2000000) -implicitDefEqProofs [-getElem?_pos, List.getElem?_cons_zero, List.getElem?_cons_succ, exec, runOps, dstOk, wantedV, AM.step, evalT, evalO, evalArgs, evalParts, getF, putF, afterRegion, assignV, boxOf, newBox, hasIdsP, keepF, ofVal, ofCell, plen, pesz, callV, builtinV, lenV, binV, unV, arith, shiftI, loadV, storeV, putV, indexAddrV, live, upd, pget, pset, psetA, pagg, retag, retagP, byteAV, freezeP, freezeV, joinTags, joinTag, tags, ids, scalar, cellsLen, eqV, convV, faV, fvV, shiftBy, shiftRo, hI, h1i, h2i, hS, h3i, h4i]
    have h4i : ((m : Int) != (b.length : Nat)) = false := by simp; omega
    rw [if_neg (by omega)]
    have w3 : IntKind.i64.wrap (x : Int) = (x : Int) := wrap_i64 (by omega) (by omega)
    simp (maxSteps := 2000000) -implicitDefEqProofs [-getElem?_pos, List.getElem?_cons_zero, List.getElem?_cons_succ, exec, runOps, dstOk, wantedV, AM.step, evalT, evalO, evalArgs, evalParts, getF, putF, afterRegion, assignV, boxOf, newBox, hasIdsP, keepF, ofVal, ofCell, plen, pesz, callV, builtinV, lenV, binV, unV, arith, shiftI, loadV, storeV, putV, indexAddrV, live, upd, pget, pset, psetA, pagg, retag, retagP, byteAV, freezeP, freezeV, joinTags, joinTag, tags, ids, scalar, cellsLen, eqV, convV, faV, fvV, shiftBy, shiftRo, hI, h1i, h2i, hS, h3i, h4i, w3]
  · have heb : (e != 0) = true := by simpa using he
    rw [if_pos he]
    simp (maxSteps := 2000000) -implicitDefEqProofs [-getElem?_pos, List.getElem?_cons_zero, List.getElem?_cons_succ, exec, runOps, dstOk, wantedV, AM.step, evalT, evalO, evalArgs, evalParts, getF, putF, afterRegion, assignV, boxOf, newBox, hasIdsP, keepF, ofVal, ofCell, plen, pesz, callV, builtinV, lenV, binV, unV, arith, shiftI, loadV, storeV, putV, indexAddrV, live, upd, pget, pset, psetA, pagg, retag, retagP, byteAV, freezeP, freezeV, joinTags, joinTag, tags, ids, scalar, cellsLen, eqV, convV, faV, fvV, shiftBy, shiftRo, hI, he, heb]

end

theorem readCount_ev {H : AM.Heap} {a : AV} {b : List UInt8} (h : Byt H a b) (hb : b.length ≤ 90000000) :
    evT X 9 [a] H = some (.tup [.int .i64 (rcR b).1, .int .i64 (rcR b).2], H) := by
  obtain ⟨c, p, xl, hp, hc, hx'⟩ := args_byt (C := X) (f := 9) (i := 0) rfl h (args_nil 1)
  obtain ⟨code, hcode, hr⟩ := readCount_code c b hc hb
  refine evT_eq (Ev1.toldP (l := [.int .i64 (rcR b).1, .int .i64 (rcR b).2]) (evT_below X) Try.func9 hcode hx' (by simp [idsL, ids, hp.ids]) (by simp [gtag]) rfl rfl rfl ?_)
  rw [par9, coB hp]
  exact ⟨_, ⟨rfl, rfl⟩, hr⟩

theorem rreadCount_ev {H : AM.Heap} {a : AV} {b : List UInt8} (h : Byt H a b) (hb : b.length ≤ 90000000) :
    evT X 10 [a] H = some (.tup [.int .i64 (rcR b).1, .int .i64 (rcR b).2], H) := by
  obtain ⟨c, p, xl, hp, hc, hx'⟩ := args_byt (C := X) (f := 10) (i := 0) rfl h (args_nil 1)
  obtain ⟨code, hcode, hr⟩ := rreadCount_code c b hc hb
  refine evT_eq (Ev1.toldP (l := [.int .i64 (rcR b).1, .int .i64 (rcR b).2]) (evT_below X) Try.func10 hcode hx' (by simp [idsL, ids, hp.ids]) (by simp [gtag]) rfl rfl rfl ?_)
  rw [par10, coB hp]
  exact ⟨_, ⟨rfl, rfl⟩, hr⟩

end Go.Proofs.Ytkgchoknkakcgaa
