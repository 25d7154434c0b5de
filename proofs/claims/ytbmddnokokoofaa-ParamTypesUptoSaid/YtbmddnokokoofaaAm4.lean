/- The abstract machine, part 4: a deterministic evaluator for the program's code and the proof that what it tells is so. Conditions: none beyond the theorems' own. -/
import Derived.Test.YtbmddnokokoofaaAm3
set_option linter.unusedSimpArgs false
set_option linter.unusedVariables false
/- Rows of structs: appended to, lent, told anew. -/
namespace Go.AM

section
variable {C : Ctx} {f : Nat} {H : Heap} {T : Cf}

/-- rows appended to a slice that a variable holds -/
theorem app_rows {T e es : Nat} (hT : und C T = .slice e) (hs : sizeT C e = es) (hes : es ≠ 0) (hb : bytesT C e ≤ 4096) (hz : zeroOk C e = true) {o g : Nat} {ob : Obj} {l m : List AV} {src : AV}
    (ho : H[o]? = some (some ob)) (h : Rw (.pr es l) g ob) (hsrc : srcV H src = some (.pr es m, 0)) (hn : l.length + m.length ≤ 100000000) :
    ∃ ob', Rw (.pr es (l ++ m)) (g + 1) ob' ∧ appendV C H T (.sl o 0 l.length g) src = some (.sl o 0 (l.length + m.length) (g + 1), upd H o (some ob')) := by
  have hlive : live H o g = some ob := by simp [live, ho, h.g]
  have hroom : roomOk C e (l.length + m.length) = true := by
    unfold roomOk
    have : (l.length + m.length) * bytesT C e ≤ 100000000 * 4096 := Nat.mul_le_mul hn hb
    exact decide_eq_true ⟨by omega, by omega⟩
  refine ⟨{ ob with p := .pr es (l ++ m), g := g + 1, cap := (match ob.cap with | some c => if 0 + l.length + AM.plen (.pr es m) ≤ c then some (c - 0) else none | none => none), z := (if AM.plen ob.p = 0 then ob.z else 1), tg := 0 }, ⟨rfl, rfl, h.row, h.ids, rfl⟩, ?_⟩
  unfold appendV
  simp only [hT, hs, hz, hsrc, hlive, h.row, h.ids, h.p, h.tg]
  rw [if_neg (by simp [hes])]
  have hc : True ∧ True ∧ 0 + l.length = AM.plen (.pr es l) ∧ pesz (.pr es l) = es ∧ roomOk C e (l.length + AM.plen (.pr es m)) = true := ⟨trivial, trivial, by simp [AM.plen], rfl, by simpa [AM.plen] using hroom⟩
  rw [if_pos hc]
  simp only [psub, Nat.zero_add, Nat.le_refl, if_true, List.drop_zero, List.take_length, papp, joinTag, pesz]
  simp [AM.plen]
  rfl

/-- a call that tells a new slice of structs, and plain values behind it -/
theorem Ev1.newR (hT : Below C T) {args xs : List AV} {lents : List Lent} {fn : Func} {c : Code} {n es : Nat} {l rest : List AV}
    (hF : C.P.funcs[f]? = some fn) (hb : fn.body = some c) (hl : lendArgs C f H 0 args = some (xs, lents)) (hi : idsL xs = []) (hn : xs.length + 1 < gtag) (hri : idsL rest = []) (hrt : tagsL rest = []) (hnt : noTups rest = true) (hpi : idsL l = []) (hpt : tagsL l = [])
    (h : Tells (Rets fun fr H1 => ∃ o g ob, resultsV C fr H1 fn.results.toList = some (.sl o 0 n g :: rest) ∧ H1[o]? = some (some ob) ∧ Rw (.pr es l) g ob) C T f 0 c (numbered 0 (coerce C xs (paramsOf C f))) []) :
    ∃ ob', Rw (.pr es l) 0 ob' ∧ Ev1 C f args H (resultV (.sl H.length 0 n 0 :: rest), H ++ [some ob']) := by
  obtain ⟨⟨ex, fr, H1⟩, ⟨he, o, g, ob, hr, ho, hw⟩, hrun⟩ := h
  simp only at he hr ho
  subst he
  refine ⟨AM.fresh ob, ⟨hw.p, rfl, hw.row, hw.ids, rfl⟩, ?_⟩
  have := Ev1.freshQ (H := H) hT hF hb hl hi hn hrun (.inr rfl) hr (o := o) (g := g) (ob := ob) (by rw [ids_result (l := .sl o 0 n g :: rest) hnt]; simp [idsL, ids, hri]) (by rw [tags_result (l := .sl o 0 n g :: rest) hnt]; simp [tagsL, tags, hrt]) (by simp [live, ho, hw.g]) hw.ids (by rw [hw.p]; exact hpi) (by rw [hw.p]; exact hpt) (by simp [tagsOb, hw.ids, hw.p, hw.tg]) hw.tg
  rw [ren_result (w := .sl H.length 0 n 0) (by simp [ren]) (renL_flat rest hri (fun t ht => rfl)) (by exact hnt) (by exact hnt)] at this
  exact this

/-- lent, the value reads as these structs; none of them if it is nil -/
def RoRow (H : Heap) (a : AV) (es : Nat) (l : List AV) : Prop :=
  ∃ c p, (p = .pr es l ∨ (p = .pn ∧ l = [])) ∧ (c = 0 → l = []) ∧ ∀ t, ∃ x, lendV H t a = some (.ro c p t, x)

theorem RoRow.ro {c t es : Nat} {l : List AV} (hc : c = 0 → l = []) : RoRow H (.ro c (.pr es l) t) es l :=
  ⟨c, _, .inl rfl, hc, fun _ => ⟨⟨[], [t]⟩, rfl⟩⟩

theorem RoRow.whole {o g es : Nat} {ob : Obj} {l : List AV} (ho : H[o]? = some (some ob)) (h : Rw (.pr es l) g ob) : RoRow H (.sl o 0 l.length g) es l := by
  have hlive : live H o g = some ob := by simp [live, ho, h.g]
  refine ⟨if ob.z = 0 ∧ AM.plen ob.p = 0 then 0 else 2, .pr es l, .inl rfl, fun h0 => ?_, fun t => ⟨⟨[o], [ob.tg]⟩, ?_⟩⟩
  · split at h0
    · rename_i hz
      have hm : l.length = 0 := by have := hz.2; rw [h.p] at this; exact this
      exact List.eq_nil_of_length_eq_zero hm
    · cases h0
  · simp only [lendV, lend1, hlive, h.ids, h.p, psub]
    simp

theorem args_row {i es : Nat} {a : AV} {l : List AV} {r as : List AV} {xs : List Lent} (hrw : C.rw f i = false) (h : RoRow H a es l) (hr : lendArgs C f H (i + 1) r = some (as, xs)) :
    ∃ c p x, (p = .pr es l ∨ (p = .pn ∧ l = [])) ∧ (c = 0 → l = []) ∧ lendArgs C f H i (a :: r) = some (.ro c p (i + 1) :: as, x :: xs) := by
  obtain ⟨c, p, hp, hc, hl⟩ := h
  obtain ⟨x, hx⟩ := hl (i + 1)
  exact ⟨c, p, x, hp, hc, by simp only [lendArgs, hrw, hx, hr]⟩

/-- the elements of a whole row, as what is appended -/
theorem srcR {o g n es : Nat} {ob : Obj} {l : List AV} (ho : H[o]? = some (some ob)) (h : Rw (.pr es l) g ob) (hn : n = l.length) (hes : es ≠ 0) : srcV H (.sl o 0 n g) = some (.pr es l, 0) := by
  subst hn
  simp [srcV, live, ho, h.g, h.ids, h.p, psub, payB, ptag, h.tg, hes]

end

end Go.AM

/- The marks of a drawing region: only the pairs whose order is free are looked at. -/
namespace Go.AM

/-- the pairs whose order is free -/
def freePairs (b : Array Nat) (n : Nat) : List (Nat × Nat) :=
  (List.range n).flatMap fun j => (List.range j).filterMap fun i => if (b.getD j 0).testBit i then none else some (i, j)

/-- do the marks of a pair bear each other? -/
def bearP (ms : List Mark) (p : Nat × Nat) : Bool := match ms[p.1]?, ms[p.2]? with | some x, some y => bear x y | _, _ => false

theorem marksOk_of {b : Array Nat} {ms : List Mark} {ps : List (Nat × Nat)} (h : freePairs b ms.length = ps) (h2 : ps.all (bearP ms) = true) : marksOk b ms = true := by
  unfold marksOk
  rw [List.all_eq_true]
  intro j hj
  rw [List.all_eq_true]
  intro i hi
  cases hb : (b.getD j 0).testBit i with
  | true => rfl
  | false =>
    rw [Bool.false_or]
    subst h
    have := List.all_eq_true.1 h2 (i, j) (by
      unfold freePairs
      rw [List.mem_flatMap]
      exact ⟨j, hj, List.mem_filterMap.2 ⟨i, hi, by rw [hb]; rfl⟩⟩)
    exact this

end Go.AM

/- Rows of one cell each (no numbers): appended to, lent. -/
namespace Go.AM

section
variable {C : Ctx} {f : Nat} {H : Heap} {T : Cf}

/-- cells appended to a slice that a variable holds -/
theorem app_cells {T e : Nat} (hT : und C T = .slice e) (hs : sizeT C e = 1) (hb : bytesT C e ≤ 4096) (hz : zeroOk C e = true) {o g : Nat} {ob : Obj} {l m : List AV} {src : AV}
    (ho : H[o]? = some (some ob)) (h : Rw (.pc l) g ob) (hsrc : srcV H src = some (.pc m, 0)) (hn : l.length + m.length ≤ 100000000) :
    ∃ ob', Rw (.pc (l ++ m)) (g + 1) ob' ∧ appendV C H T (.sl o 0 l.length g) src = some (.sl o 0 (l.length + m.length) (g + 1), upd H o (some ob')) := by
  have hlive : live H o g = some ob := by simp [live, ho, h.g]
  have hroom : roomOk C e (l.length + m.length) = true := by
    unfold roomOk
    have : (l.length + m.length) * bytesT C e ≤ 100000000 * 4096 := Nat.mul_le_mul hn hb
    exact decide_eq_true ⟨by omega, by omega⟩
  refine ⟨{ ob with p := .pc (l ++ m), g := g + 1, cap := (match ob.cap with | some c => if 0 + l.length + AM.plen (.pc m) ≤ c then some (c - 0) else none | none => none), z := (if AM.plen ob.p = 0 then ob.z else 1), tg := 0 }, ⟨rfl, rfl, h.row, h.ids, rfl⟩, ?_⟩
  unfold appendV
  simp only [hT, hs, hz, hsrc, hlive, h.row, h.ids, h.p, h.tg]
  rw [if_neg (by simp)]
  have hc : True ∧ True ∧ 0 + l.length = AM.plen (.pc l) ∧ pesz (.pc l) = 1 ∧ roomOk C e (l.length + AM.plen (.pc m)) = true := ⟨trivial, trivial, by simp [AM.plen], rfl, by simpa [AM.plen] using hroom⟩
  rw [if_pos hc]
  simp only [psub, Nat.zero_add, Nat.le_refl, if_true, List.drop_zero, List.take_length, papp, joinTag, pesz]
  simp [AM.plen]
  rfl

/-- lent, the value reads as these cells; none of them if it is nil -/
def RoCel (H : Heap) (a : AV) (l : List AV) : Prop :=
  ∃ c p, (p = .pc l ∨ (p = .pn ∧ l = [])) ∧ (c = 0 → l = []) ∧ ∀ t, ∃ x, lendV H t a = some (.ro c p t, x)

theorem RoCel.ro {c t : Nat} {l : List AV} (hc : c = 0 → l = []) : RoCel H (.ro c (.pc l) t) l :=
  ⟨c, _, .inl rfl, hc, fun _ => ⟨⟨[], [t]⟩, rfl⟩⟩

theorem RoCel.whole {o g : Nat} {ob : Obj} {l : List AV} (ho : H[o]? = some (some ob)) (h : Rw (.pc l) g ob) : RoCel H (.sl o 0 l.length g) l := by
  have hlive : live H o g = some ob := by simp [live, ho, h.g]
  refine ⟨if ob.z = 0 ∧ AM.plen ob.p = 0 then 0 else 2, .pc l, .inl rfl, fun h0 => ?_, fun t => ⟨⟨[o], [ob.tg]⟩, ?_⟩⟩
  · split at h0
    · rename_i hz
      have hm : l.length = 0 := by have := hz.2; rw [h.p] at this; exact this
      exact List.eq_nil_of_length_eq_zero hm
    · cases h0
  · simp only [lendV, lend1, hlive, h.ids, h.p, psub]
    simp

theorem args_cel {i : Nat} {a : AV} {l : List AV} {r as : List AV} {xs : List Lent} (hrw : C.rw f i = false) (h : RoCel H a l) (hr : lendArgs C f H (i + 1) r = some (as, xs)) :
    ∃ c p x, (p = .pc l ∨ (p = .pn ∧ l = [])) ∧ (c = 0 → l = []) ∧ lendArgs C f H i (a :: r) = some (.ro c p (i + 1) :: as, x :: xs) := by
  obtain ⟨c, p, hp, hc, hl⟩ := h
  obtain ⟨x, hx⟩ := hl (i + 1)
  exact ⟨c, p, x, hp, hc, by simp only [lendArgs, hrw, hx, hr]⟩

end

end Go.AM
