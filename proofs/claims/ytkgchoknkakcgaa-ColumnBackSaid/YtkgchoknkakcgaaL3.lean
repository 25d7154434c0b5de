/- Walks: counted numbers and texts, appended and read. -/
import Derived.Test.YtkgchoknkakcgaaL2
import Derived.Test.YtkgchoknkakcgaaF2
namespace Go.Proofs.Ytkgchoknkakcgaa
open Go.AM
set_option linter.unusedSimpArgs false
set_option linter.unusedVariables false

/-- a counted number's bytes -/
def aI (x : Nat) : List UInt8 := (if (frm x).1 = 0 then [] else [UInt8.ofNat (frm x).1]) ++ leB (frm x).2 x

theorem frm_ok {x : Nat} (hx : x < 18446744073709551616) : 1 ≤ (frm x).2 ∧ (frm x).2 ≤ 8 ∧ x < 256 ^ (frm x).2 ∧ (frm x).1 < 256 := by
  unfold frm
  split
  · simp only [Nat.reducePow]; omega
  · split
    · simp only [Nat.reducePow]; omega
    · split
      · simp only [Nat.reducePow]; omega
      · simp only [Nat.reducePow]; omega

theorem aI_len (x : Nat) : (aI x).length = szI x := by
  unfold aI szI frm
  split
  · simp [leB_len]
  · split
    · simp [leB_len]
    · split
      · simp [leB_len]
      · simp [leB_len]

theorem szI_le (x : Nat) : 1 ≤ szI x ∧ szI x ≤ 9 := by
  unfold szI; repeat' split
  all_goals omega

section
variable (c : Nat) (b : List UInt8) (x : Nat)

set_option maxRecDepth 100000 in
theorem appendInt_code (hc : c = 0 → b = []) (hb : b.length ≤ 80000000) (hx : x < 18446744073709551616) : ∃ code, Try.f35.body = some code ∧
    Tells (Rets fun fr H => ∃ o g ob, getF fr 4 = .sl o 0 (b.length + szI x) g ∧ H[o]? = some (some ob) ∧ Rw (.pb (b ++ aI x)) g ob) X (evT X) 35 0 code [(0, .ro c (.pb b) 1), (1, .int .u64 (x : Nat))] [] := by
  refine ⟨_, rfl, ?_⟩
  obtain ⟨h1, h8, hxn, hf⟩ := frm_ok hx
  have hlen := aI_len x
  rw [← hlen]
  unfold aI
  obtain ⟨ob0, hw0, hC⟩ := clone_ev (H := [some nilB]) (a := .ro c (.pb b) 1) (b := b) (Byt.ro (.inl rfl) hc) (by omega)
  have hF := form_ev x [some nilB]
  generalize frm x = r at *
  obtain ⟨q, n⟩ := r
  simp only at h1 h8 hxn hf hF ⊢
  by_cases h0 : q = 0
  · subst h0
    obtain ⟨ob1, hw1, hA⟩ := af_ev (H := [some nilB, some ob0]) (a := .sl 1 0 b.length 0) (b := b) (x := x) (n := n) (Byt.whole rfl hw0) (by omega) h1 h8 hxn
    refine Tells.of (o := ⟨.ret, [(4, .sl 2 0 (b.length + n) 0)], [some nilB, some ob0, some ob1]⟩) ?_ ⟨rfl, 2, 0, ob1, by simp [getF, leB_len], rfl, by simpa using hw1⟩
    refine ⟨0, ?_⟩
    simp (maxSteps := 2000000) -implicitDefEqProofs [-getElem?_pos, List.getElem?_cons_zero, List.getElem?_cons_succ, exec, runOps, dstOk, wantedV, AM.step, evalT, evalO, evalArgs, evalParts, getF, putF, afterRegion, assignV, boxOf, newBox, hasIdsP, keepF, ofVal, ofCell, plen, pesz, callV, builtinV, lenV, binV, unV, arith, shiftI, loadV, storeV, putV, indexAddrV, live, upd, pget, pset, psetA, pagg, retag, retagP, byteAV, freezeP, freezeV, joinTags, joinTag, tags, ids, scalar, cellsLen, eqV, convV, faV, fvV, shiftBy, shiftRo, assignV, emB, hF, hC, hA]
  · have h0b : ((q : Int) != 0) = true := by simpa using h0
    have h0i : ¬ (q : Int) = 0 := by omega
    rw [if_neg h0]
    have hbs := fun H => bs1 H (UInt8.ofNat q)
    have hqn : (UInt8.ofNat q).toNat = q := by simp; omega
    rw [hqn] at hbs
    obtain ⟨ob', hw', hA1⟩ := app_b (H := [some nilB, some ob0]) (o := 1) (src := .ro 1 (.pb [UInt8.ofNat q]) 0) rfl hw0 (.inl rfl) (by simp; omega)
    obtain ⟨ob1, hw1, hA⟩ := af_ev (H := [some nilB, some ob']) (a := .sl 1 0 (b ++ [UInt8.ofNat q]).length 1) (b := b ++ [UInt8.ofNat q]) (x := x) (n := n) (Byt.whole rfl hw') (by simp; omega) h1 h8 hxn
    refine Tells.of (o := ⟨.ret, [(4, .sl 2 0 (b.length + 1 + n) 0)], [some nilB, some ob', some ob1]⟩) ?_ ⟨rfl, 2, 0, ob1, by simp [getF, leB_len]; omega, rfl, by simpa using hw1⟩
    refine ⟨0, ?_⟩
    simp only [List.length_append, List.length_cons, List.length_nil, Nat.zero_add] at hA1 hA
    simp (maxSteps := 2000000) -implicitDefEqProofs [-getElem?_pos, List.getElem?_cons_zero, List.getElem?_cons_succ, exec, runOps, dstOk, wantedV, AM.step, evalT, evalO, evalArgs, evalParts, getF, putF, afterRegion, assignV, boxOf, newBox, hasIdsP, keepF, ofVal, ofCell, plen, pesz, callV, builtinV, lenV, binV, unV, arith, shiftI, loadV, storeV, putV, indexAddrV, live, upd, pget, pset, psetA, pagg, retag, retagP, byteAV, freezeP, freezeV, joinTags, joinTag, tags, ids, scalar, cellsLen, eqV, convV, faV, fvV, shiftBy, shiftRo, assignV, emB, hF, hC, h0b, h0i, hbs, hA1, upd, hA]

end

theorem appendInt_ev {H : AM.Heap} {a : AV} {b : List UInt8} {x : Nat} (h : Byt H a b) (hb : b.length ≤ 80000000) (hx : x < 18446744073709551616) :
    ∃ ob, Rw (.pb (b ++ aI x)) 0 ob ∧ evT X 35 [a, .int .u64 (x : Nat)] H = some (.sl H.length 0 (b.length + szI x) 0, H ++ [some ob]) := by
  obtain ⟨c, p, xl, hp, hc, hx'⟩ := args_byt (C := X) (f := 35) (i := 0) rfl h (args_flat (i := 1) (a := .int .u64 (x : Nat)) rfl rfl (args_nil 2))
  obtain ⟨code, hcode, hr⟩ := appendInt_code c b x hc hb hx
  obtain ⟨ob, q1, q2⟩ := Ev1.newB (H := H) (n := b.length + szI x) (l := b ++ aI x) (rest := []) (evT_below X) Try.func35 hcode hx' (by simp [idsL, ids, hp.ids]) (by simp [gtag]) rfl rfl rfl (by
    obtain ⟨o, ⟨he, o1, g, ob, q1, q3, q4⟩, hrun⟩ := hr
    exact ⟨o, ⟨he, o1, g, ob, by show some [getF o.fr 4] = _; rw [q1], q3, q4⟩, by rw [par35, coB hp]; exact hrun⟩)
  exact ⟨ob, q1, evT_eq q2⟩

/-- a counted text's bytes -/
def aT (s : List UInt8) : List UInt8 := aI s.length ++ s

section
variable (c : Nat) (b : List UInt8) (s : List UInt8)

set_option maxRecDepth 100000 in
theorem appendText_code (hc : c = 0 → b = []) (hb : b.length ≤ 40000000) (hs : s.length ≤ 40000000) : ∃ code, Try.f36.body = some code ∧
    Tells (Rets fun fr H => ∃ o g ob, getF fr 4 = .sl o 0 (b ++ aT s).length g ∧ H[o]? = some (some ob) ∧ Rw (.pb (b ++ aT s)) g ob) X (evT X) 36 0 code [(0, .ro c (.pb b) 1), (1, .str s)] [] := by
  refine ⟨_, rfl, ?_⟩
  have hsz := szI_le s.length
  have hl := aI_len s.length
  obtain ⟨ob1, hw1, hA⟩ := appendInt_ev (H := [some nilB]) (a := .ro c (.pb b) 1) (b := b) (x := s.length) (Byt.ro (.inl rfl) hc) (by omega) (by omega)
  obtain ⟨ob', hw', hA1⟩ := app_b (H := [some nilB, some ob1]) (o := 1) (m := s) (src := .str s) rfl hw1 (.inl rfl) (by simp; omega)
  have w1 : IntKind.u64.wrap (s.length : Int) = (s.length : Int) := wrap_u64 (by omega) (by omega)
  simp only [List.length_append, hl] at hA1
  refine Tells.of (o := ⟨.ret, [(4, .sl 1 0 (b.length + szI s.length + s.length) 1)], [some nilB, some ob']⟩) ?_ ⟨rfl, 1, 1, ob', by simp [getF, aT, hl]; omega, rfl, by rw [aT, ← List.append_assoc]; exact hw'⟩
  refine ⟨0, ?_⟩
  simp (maxSteps := 2000000) -implicitDefEqProofs [-getElem?_pos, List.getElem?_cons_zero, List.getElem?_cons_succ, exec, runOps, dstOk, wantedV, AM.step, evalT, evalO, evalArgs, evalParts, getF, putF, afterRegion, assignV, boxOf, newBox, hasIdsP, keepF, ofVal, ofCell, plen, pesz, callV, builtinV, lenV, binV, unV, arith, shiftI, loadV, storeV, putV, indexAddrV, live, upd, pget, pset, psetA, pagg, retag, retagP, byteAV, freezeP, freezeV, joinTags, joinTag, tags, ids, scalar, cellsLen, eqV, convV, faV, fvV, shiftBy, shiftRo, assignV, emB, w1, hA, hA1, upd]

end

theorem appendText_ev {H : AM.Heap} {a : AV} {b s : List UInt8} (h : Byt H a b) (hb : b.length ≤ 40000000) (hs : s.length ≤ 40000000) :
    ∃ ob, Rw (.pb (b ++ aT s)) 0 ob ∧ evT X 36 [a, .str s] H = some (.sl H.length 0 (b ++ aT s).length 0, H ++ [some ob]) := by
  obtain ⟨c, p, xl, hp, hc, hx'⟩ := args_byt (C := X) (f := 36) (i := 0) rfl h (args_flat (i := 1) (a := .str s) rfl rfl (args_nil 2))
  obtain ⟨code, hcode, hr⟩ := appendText_code c b s hc hb hs
  obtain ⟨ob, q1, q2⟩ := Ev1.newB (H := H) (n := (b ++ aT s).length) (l := b ++ aT s) (rest := []) (evT_below X) Try.func36 hcode hx' (by simp [idsL, ids, hp.ids]) (by simp [gtag]) rfl rfl rfl (by
    obtain ⟨o, ⟨he, o1, g, ob, q1, q3, q4⟩, hrun⟩ := hr
    exact ⟨o, ⟨he, o1, g, ob, by show some [getF o.fr 4] = _; rw [q1], q3, q4⟩, by rw [par36, coB hp]; exact hrun⟩)
  exact ⟨ob, q1, evT_eq q2⟩

end Go.Proofs.Ytkgchoknkakcgaa
