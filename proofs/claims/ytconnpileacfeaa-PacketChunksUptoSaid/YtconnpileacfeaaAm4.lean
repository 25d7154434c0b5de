/- The abstract machine, part 4: a deterministic evaluator for the program's code and the proof that what it tells is so. Conditions: none beyond the theorems' own. -/
import Derived.Test.YtconnpileacfeaaAm3
set_option linter.unusedSimpArgs false
set_option linter.unusedVariables false
/- Rows of structs: appended to, lent, told anew. -/
namespace Go.AM

section
variable {C : Ctx} {f : Nat} {H : Heap} {T : Cf}

/-- rows appended to a slice that a variable holds -/
theorem app_rows {T e es : Nat} (hT : und C T = .slice e) (hs : sizeT C e = es) (hes : es ≠ 0) (hb : bytesT C e ≤ 4096) (hz : zeroOk C e = true) {o g : Nat} {ob : Obj} {l m : List AV} {src : AV}
    (ho : H[o]? = some (some ob)) (h : Rw (.pr es l) g ob) (hsrc : srcV H src = some (.pr es m, 0)) (hn : l.length + m.length ≤ 100000000) :
    ∃ ob', Rw (.pr es (l ++ m)) (g + 1) ob' ∧ appendV C H T (.sl o 0 l.length g) src = some (.sl o 0 (l.length + m.length) (g + 1), upd H o (some ob')) := by
  have hlive : live H o g = some ob := by simp [live, ho, h.g]
  have hroom : roomOk C e (l.length + m.length) = true := by
    unfold roomOk
    have : (l.length + m.length) * bytesT C e ≤ 100000000 * 4096 := Nat.mul_le_mul hn hb
    exact decide_eq_true ⟨by omega, by omega⟩
  refine ⟨{ ob with p := .pr es (l ++ m), g := g + 1, cap := (match ob.cap with | some c => if 0 + l.length + AM.plen (.pr es m) ≤ c then some (c - 0) else none | none => none), z := (if AM.plen ob.p = 0 then ob.z else 1), tg := 0 }, ⟨rfl, rfl, h.row, h.ids, rfl⟩, ?_⟩
  unfold appendV
  simp only [hT, hs, hz, hsrc, hlive, h.row, h.ids, h.p, h.tg]
  rw [if_neg (by simp [hes])]
  have hc : True ∧ True ∧ 0 + l.length = AM.plen (.pr es l) ∧ pesz (.pr es l) = es ∧ roomOk C e (l.length + AM.plen (.pr es m)) = true := ⟨trivial, trivial, by simp [AM.plen], rfl, by simpa [AM.plen] using hroom⟩
  rw [if_pos hc]
  simp only [psub, Nat.zero_add, Nat.le_refl, if_true, List.drop_zero, List.take_length, papp, joinTag, pesz]
  simp [AM.plen]
  rfl

/-- a call that tells a new slice of structs, and plain values behind it -/
theorem Ev1.newR (hT : Below C T) {args xs : List AV} {lents : List Lent} {fn : Func} {c : Code} {n es : Nat} {l rest : List AV}
    (hF : C.P.funcs[f]? = some fn) (hb : fn.body = some c) (hl : lendArgs C f H 0 args = some (xs, lents)) (hi : idsL xs = []) (hn : xs.length + 1 < gtag) (hri : idsL rest = []) (hrt : tagsL rest = []) (hnt : noTups rest = true) (hpi : idsL l = []) (hpt : tagsL l = [])
    (h : Tells (Rets fun fr H1 => ∃ o g ob, resultsV C fr H1 fn.results.toList = some (.sl o 0 n g :: rest) ∧ H1[o]? = some (some ob) ∧ Rw (.pr es l) g ob) C T f 0 c (numbered 0 (coerce C xs (paramsOf C f))) []) :
    ∃ ob', Rw (.pr es l) 0 ob' ∧ Ev1 C f args H (resultV (.sl H.length 0 n 0 :: rest), H ++ [some ob']) := by
  obtain ⟨⟨ex, fr, H1⟩, ⟨he, o, g, ob, hr, ho, hw⟩, hrun⟩ := h
  simp only at he hr ho
  subst he
  refine ⟨AM.fresh ob, ⟨hw.p, rfl, hw.row, hw.ids, rfl⟩, ?_⟩
  have := Ev1.freshQ (H := H) hT hF hb hl hi hn hrun (.inr rfl) hr (o := o) (g := g) (ob := ob) (by rw [ids_result (l := .sl o 0 n g :: rest) hnt]; simp [idsL, ids, hri]) (by rw [tags_result (l := .sl o 0 n g :: rest) hnt]; simp [tagsL, tags, hrt]) (by simp [live, ho, hw.g]) hw.ids (by rw [hw.p]; exact hpi) (by rw [hw.p]; exact hpt) (by simp [tagsOb, hw.ids, hw.p, hw.tg]) hw.tg
  rw [ren_result (w := .sl H.length 0 n 0) (by simp [ren]) (renL_flat rest hri (fun t ht => rfl)) (by exact hnt) (by exact hnt)] at this
  exact this

/-- lent, the value reads as these structs; none of them if it is nil -/
def RoRow (H : Heap) (a : AV) (es : Nat) (l : List AV) : Prop :=
  ∃ c p, (p = .pr es l ∨ (p = .pn ∧ l = [])) ∧ (c = 0 → l = []) ∧ ∀ t, ∃ x, lendV H t a = some (.ro c p t, x)

theorem RoRow.ro {c t es : Nat} {l : List AV} (hc : c = 0 → l = []) : RoRow H (.ro c (.pr es l) t) es l :=
  ⟨c, _, .inl rfl, hc, fun _ => ⟨⟨[], [t]⟩, rfl⟩⟩

theorem RoRow.whole {o g es : Nat} {ob : Obj} {l : List AV} (ho : H[o]? = some (some ob)) (h : Rw (.pr es l) g ob) : RoRow H (.sl o 0 l.length g) es l := by
  have hlive : live H o g = some ob := by simp [live, ho, h.g]
  refine ⟨if ob.z = 0 ∧ AM.plen ob.p = 0 then 0 else 2, .pr es l, .inl rfl, fun h0 => ?_, fun t => ⟨⟨[o], [ob.tg]⟩, ?_⟩⟩
  · split at h0
    · rename_i hz
      have hm : l.length = 0 := by have := hz.2; rw [h.p] at this; exact this
      exact List.eq_nil_of_length_eq_zero hm
    · cases h0
  · simp only [lendV, lend1, hlive, h.ids, h.p, psub]
    simp

theorem args_row {i es : Nat} {a : AV} {l : List AV} {r as : List AV} {xs : List Lent} (hrw : C.rw f i = false) (h : RoRow H a es l) (hr : lendArgs C f H (i + 1) r = some (as, xs)) :
    ∃ c p x, (p = .pr es l ∨ (p = .pn ∧ l = [])) ∧ (c = 0 → l = []) ∧ lendArgs C f H i (a :: r) = some (.ro c p (i + 1) :: as, x :: xs) := by
  obtain ⟨c, p, hp, hc, hl⟩ := h
  obtain ⟨x, hx⟩ := hl (i + 1)
  exact ⟨c, p, x, hp, hc, by simp only [lendArgs, hrw, hx, hr]⟩

/-- the elements of a whole row, as what is appended -/
theorem srcR {o g n es : Nat} {ob : Obj} {l : List AV} (ho : H[o]? = some (some ob)) (h : Rw (.pr es l) g ob) (hn : n = l.length) (hes : es ≠ 0) : srcV H (.sl o 0 n g) = some (.pr es l, 0) := by
  subst hn
  simp [srcV, live, ho, h.g, h.ids, h.p, psub, payB, ptag, h.tg, hes]

end

end Go.AM

/- The marks of a drawing region: only the pairs whose order is free are looked at. -/
namespace Go.AM

/-- the pairs whose order is free -/
def freePairs (b : Array Nat) (n : Nat) : List (Nat × Nat) :=
  (List.range n).flatMap fun j => (List.range j).filterMap fun i => if (b.getD j 0).testBit i then none else some (i, j)

/-- do the marks of a pair bear each other? -/
def bearP (ms : List Mark) (p : Nat × Nat) : Bool := match ms[p.1]?, ms[p.2]? with | some x, some y => bear x y | _, _ => false

theorem marksOk_of {b : Array Nat} {ms : List Mark} {ps : List (Nat × Nat)} (h : freePairs b ms.length = ps) (h2 : ps.all (bearP ms) = true) : marksOk b ms = true := by
  unfold marksOk
  rw [List.all_eq_true]
  intro j hj
  rw [List.all_eq_true]
  intro i hi
  cases hb : (b.getD j 0).testBit i with
  | true => rfl
  | false =>
    rw [Bool.false_or]
    subst h
    have := List.all_eq_true.1 h2 (i, j) (by
      unfold freePairs
      rw [List.mem_flatMap]
      exact ⟨j, hj, List.mem_filterMap.2 ⟨i, hi, by rw [hb]; rfl⟩⟩)
    exact this

end Go.AM

/- Rows of one cell each (no numbers): appended to, lent. -/
namespace Go.AM

section
variable {C : Ctx} {f : Nat} {H : Heap} {T : Cf}

/-- cells appended to a slice that a variable holds -/
theorem app_cells {T e : Nat} (hT : und C T = .slice e) (hs : sizeT C e = 1) (hb : bytesT C e ≤ 4096) (hz : zeroOk C e = true) {o g : Nat} {ob : Obj} {l m : List AV} {src : AV}
    (ho : H[o]? = some (some ob)) (h : Rw (.pc l) g ob) (hsrc : srcV H src = some (.pc m, 0)) (hn : l.length + m.length ≤ 100000000) :
    ∃ ob', Rw (.pc (l ++ m)) (g + 1) ob' ∧ appendV C H T (.sl o 0 l.length g) src = some (.sl o 0 (l.length + m.length) (g + 1), upd H o (some ob')) := by
  have hlive : live H o g = some ob := by simp [live, ho, h.g]
  have hroom : roomOk C e (l.length + m.length) = true := by
    unfold roomOk
    have : (l.length + m.length) * bytesT C e ≤ 100000000 * 4096 := Nat.mul_le_mul hn hb
    exact decide_eq_true ⟨by omega, by omega⟩
  refine ⟨{ ob with p := .pc (l ++ m), g := g + 1, cap := (match ob.cap with | some c => if 0 + l.length + AM.plen (.pc m) ≤ c then some (c - 0) else none | none => none), z := (if AM.plen ob.p = 0 then ob.z else 1), tg := 0 }, ⟨rfl, rfl, h.row, h.ids, rfl⟩, ?_⟩
  unfold appendV
  simp only [hT, hs, hz, hsrc, hlive, h.row, h.ids, h.p, h.tg]
  rw [if_neg (by simp)]
  have hc : True ∧ True ∧ 0 + l.length = AM.plen (.pc l) ∧ pesz (.pc l) = 1 ∧ roomOk C e (l.length + AM.plen (.pc m)) = true := ⟨trivial, trivial, by simp [AM.plen], rfl, by simpa [AM.plen] using hroom⟩
  rw [if_pos hc]
  simp only [psub, Nat.zero_add, Nat.le_refl, if_true, List.drop_zero, List.take_length, papp, joinTag, pesz]
  simp [AM.plen]
  rfl

/-- lent, the value reads as these cells; none of them if it is nil -/
def RoCel (H : Heap) (a : AV) (l : List AV) : Prop :=
  ∃ c p, (p = .pc l ∨ (p = .pn ∧ l = [])) ∧ (c = 0 → l = []) ∧ ∀ t, ∃ x, lendV H t a = some (.ro c p t, x)

theorem RoCel.ro {c t : Nat} {l : List AV} (hc : c = 0 → l = []) : RoCel H (.ro c (.pc l) t) l :=
  ⟨c, _, .inl rfl, hc, fun _ => ⟨⟨[], [t]⟩, rfl⟩⟩

theorem RoCel.whole {o g : Nat} {ob : Obj} {l : List AV} (ho : H[o]? = some (some ob)) (h : Rw (.pc l) g ob) : RoCel H (.sl o 0 l.length g) l := by
  have hlive : live H o g = some ob := by simp [live, ho, h.g]
  refine ⟨if ob.z = 0 ∧ AM.plen ob.p = 0 then 0 else 2, .pc l, .inl rfl, fun h0 => ?_, fun t => ⟨⟨[o], [ob.tg]⟩, ?_⟩⟩
  · split at h0
    · rename_i hz
      have hm : l.length = 0 := by have := hz.2; rw [h.p] at this; exact this
      exact List.eq_nil_of_length_eq_zero hm
    · cases h0
  · simp only [lendV, lend1, hlive, h.ids, h.p, psub]
    simp

theorem args_cel {i : Nat} {a : AV} {l : List AV} {r as : List AV} {xs : List Lent} (hrw : C.rw f i = false) (h : RoCel H a l) (hr : lendArgs C f H (i + 1) r = some (as, xs)) :
    ∃ c p x, (p = .pc l ∨ (p = .pn ∧ l = [])) ∧ (c = 0 → l = []) ∧ lendArgs C f H i (a :: r) = some (.ro c p (i + 1) :: as, x :: xs) := by
  obtain ⟨c, p, hp, hc, hl⟩ := h
  obtain ⟨x, hx⟩ := hl (i + 1)
  exact ⟨c, p, x, hp, hc, by simp only [lendArgs, hrw, hx, hr]⟩

end

end Go.AM

/- Calls of a closure over a variable that it changes: as AmHand's box, the variable last. -/
namespace Go.AM

section
variable {C : Ctx} {f : Nat} {H : Heap} {T : Cf}

theorem Ev1.boxL (hT : Below C T) {o g : Nat} {ob ob1 : Obj} {xs : List AV} {fn : Func} {c : Code} {out : Out} {l : List AV} {rest : Heap} {n t : Nat}
    (hF : C.P.funcs[f]? = some fn) (hb : fn.body = some c) (hrw : ∀ i, C.rw f i = false) (ho : H[o]? = some (some ob)) (hg : ob.g = g) (hi : ids ob.p = [])
    (hx : xs.all flatV = true) (hn : xs.length + 2 = n) (hng : n < gtag)
    (hj : joinTags (tagsOb ob) = some t)
    (he : Run C T f 1 c (numbered 0 (coerce C (xs ++ [.ptr 0 0 0 0]) (paramsOf C f))) [some { ob with p := rt n ob.p, g := 0, tg := n }] out)
    (hex : out.ex = .normal ∨ out.ex = .ret) (hr : resultsV C out.fr out.H fn.results.toList = some l)
    (hH : out.H = some ob1 :: rest) (hid1 : ob1.ids = true) (hi1 : ids ob1.p = []) (hv : ids (resultV l) = [])
    (hu : ∀ k ∈ tags (resultV l) ++ tagsOb ob1, k = 0 ∨ k = n) (ht1 : ob1.tg = 0 ∨ ob1.tg = n) :
    Ev1 C f (xs ++ [.ptr o 0 0 g]) H (ren (fun _ _ => none) (bk n t) (resultV l), upd H o (some { ob1 with p := ren (fun _ _ => none) (bk n t) ob1.p, g := g + (if ob1.g = 0 then 0 else 1), tg := bk n t ob1.tg })) := by
  have hlive : live H o g = some ob := by simp [live, ho, hg]
  have hat : obAt H o = some ob := by simp [obAt, ho]
  have hxi := flats_ids hx
  have hl' := lendArgs_flats (H := H) hrw (o := o) (g := g) (i := 0) hx
  have hids : idsL (xs ++ [.ptr o 0 0 g]) = [o] := by rw [idsL_app, hxi.1]; rfl
  have hre : reach H reachFuel (idsL (xs ++ [.ptr o 0 0 g])) [] = [o] := by
    rw [hids]
    exact reach_box ho hi
  have hin : intoN H [o] o g = some (0, 0) := by simp [intoN, hlive, idxOf]
  have hn0 : 0 < n := by omega
  refine Ev1.of (out := out) (l := l) hT hF hb hl' ?_ ?_ hex hr ?_
  · rw [hre]
    simp only [Bool.and_eq_true, decide_eq_true_eq, List.length_append, List.length_cons, List.length_nil]
    refine ⟨List.all_eq_true.2 fun x hx => ?_, by omega⟩
    rw [List.mem_replicate] at hx
    rw [hx.2]; rfl
  · rw [hre]
    have e1 : renL (intoN H [o]) (fun t => t) (xs ++ [.ptr o 0 0 g]) = xs ++ [.ptr 0 0 0 0] := by
      rw [renL_app, renL_flat xs hxi.1 (fun _ _ => rfl)]
      simp [renL, ren, hin]
    have e2 : ([o].map fun o' => (obAt H o').map (renObj (intoN H [o]) (fun _ => (xs ++ [AV.ptr o 0 0 g]).length + 1) 0)) = [some { ob with p := rt n ob.p, g := 0, tg := n }] := by
      simp only [List.map_cons, List.map_nil, hat, Option.map_some, renObj, List.length_append, List.length_cons, List.length_nil]
      rw [show xs.length + (0 + 1) + 1 = n by omega]
      have e : ren (intoN H [o]) (fun _ => n) ob.p = rt n ob.p := ren_same ob.p (fun o g h => by rw [hi] at h; cases h) (fun _ _ => rfl)
      rw [e]
    rw [e1, e2]
    exact he
  · rw [hre]
    unfold wrap
    have h0 : out.H[0]? = some (some ob1) := by rw [hH]; rfl
    have hat1 : obAt out.H 0 = some ob1 := by simp [obAt, h0]
    have hre1 : reach out.H reachFuel (List.range [o].length ++ ids (resultV l)) [] = [0] := by
      rw [hv]
      exact reach_box h0 hi1
    have hbt : ∀ k, k = 0 ∨ k = n → backTag (List.replicate (xs.length + 1) ⟨[], []⟩ ++ [⟨[], tagsObjs ([o].map (obAt H))⟩]) k = some (bk n t k) := by
      rintro k (rfl | rfl)
      · unfold backTag bk
        rw [if_pos rfl, if_neg (by omega)]
      · unfold backTag bk
        rw [if_neg (by omega), if_pos rfl]
        rw [List.getElem?_append_right (by simp; omega)]
        simp [show k - 1 - (xs.length + 1) = 0 by omega, tagsObjs, hat, hj]
    have hgo : ∀ k, k = 0 ∨ k = n → goneOf (List.replicate (xs.length + 1) ⟨[], []⟩ ++ [⟨[], tagsObjs ([o].map (obAt H))⟩]) k = [] := by
      rintro k (rfl | rfl)
      · rfl
      · unfold goneOf
        rw [if_neg (by omega)]
        rw [List.getElem?_append_right (by simp; omega)]
        simp [show k - 1 - (xs.length + 1) = 0 by omega]
    generalize (List.replicate (xs.length + 1) ⟨[], []⟩ ++ [⟨[], tagsObjs ([o].map (obAt H))⟩] : List Lent) = L at *
    have hbT : ∀ k, k = 0 ∨ k = n → backT L k = bk n t k := fun k hk => by unfold backT; rw [hbt k hk]; rfl
    simp only [hre1]
    rw [show ([0].filter fun o' => decide ([o].length ≤ o')) = [] from rfl]
    have hus : (tags (resultV l) ++ tagsObjs ((List.range [o].length).map (obAt out.H)) ++ tagsObjs (([] : List Nat).map (obAt out.H))) = tags (resultV l) ++ tagsOb ob1 := by
      simp [tagsObjs, hat1, List.range_succ]
    rw [hus]
    rw [if_pos (List.all_eq_true.2 fun k hk => by rw [hbt k (hu k hk)]; rfl)]
    rw [show (tags (resultV l) ++ tagsOb ob1).flatMap (goneOf L) = [] from List.flatMap_eq_nil_iff.2 fun k hk => hgo k (hu k hk)]
    simp only [strike, List.map_nil, List.append_nil, putBack, hat1, Option.map_some, Option.some.injEq, Prod.mk.injEq]
    refine ⟨ren_same _ (fun o g h => by rw [hv] at h; cases h) (fun k hk => hbT k (hu k (List.mem_append_left _ hk))), ?_⟩
    have hgb : genBack H [o] 0 ob1.g = g + (if ob1.g = 0 then 0 else 1) := by simp [genBack, hat, hg]
    rw [hgb]
    congr 2
    simp only [renObj]
    rw [hbT _ ht1]
    congr 1
    refine ren_same _ (fun o g h => by rw [hi1] at h; cases h) fun k hk => ?_
    unfold tagsOb at hu
    rw [if_pos hid1] at hu
    exact hbT k (hu k (List.mem_append_right _ hk))

end

end Go.AM

/- Calls of a closure over a variable that it changes, that tells a new slice: as AmHand's boxNew, the variable last. -/
namespace Go.AM

section
variable {C : Ctx} {f : Nat} {H : Heap} {T : Cf}

theorem Ev1.boxLNew (hT : Below C T) {o g : Nat} {ob ob1 : Obj} {xs : List AV} {fn : Func} {c : Code} {out : Out} {l : List AV} {rest : Heap} {n t o1 g1 : Nat} {ob2 : Obj}
    (hF : C.P.funcs[f]? = some fn) (hb : fn.body = some c) (hrw : ∀ i, C.rw f i = false) (ho : H[o]? = some (some ob)) (hg : ob.g = g) (hi : ids ob.p = [])
    (hx : xs.all flatV = true) (hn : xs.length + 2 = n) (hng : n < gtag)
    (hj : joinTags (tagsOb ob) = some t)
    (he : Run C T f 1 c (numbered 0 (coerce C (xs ++ [.ptr 0 0 0 0]) (paramsOf C f))) [some { ob with p := rt n ob.p, g := 0, tg := n }] out)
    (hex : out.ex = .normal ∨ out.ex = .ret) (hr : resultsV C out.fr out.H fn.results.toList = some l)
    (hH : out.H = some ob1 :: rest) (hid1 : ob1.ids = true) (hi1 : ids ob1.p = []) (hv : ids (resultV l) = [o1]) (ho1 : live out.H o1 g1 = some ob2) (hne : o1 ≠ 0) (hid2 : ob2.ids = false) (hp2 : plainP ob2.p = true) (htg2 : ob2.tg = 0)
    (hu : ∀ k ∈ tags (resultV l) ++ tagsOb ob1, k = 0 ∨ k = n) (ht1 : ob1.tg = 0 ∨ ob1.tg = n) :
    Ev1 C f (xs ++ [.ptr o 0 0 g]) H (ren (fun o' g' => if o' = o1 ∧ g' = g1 then some (H.length, 0) else none) (bk n t) (resultV l), upd H o (some { ob1 with p := ren (fun _ _ => none) (bk n t) ob1.p, g := g + (if ob1.g = 0 then 0 else 1), tg := bk n t ob1.tg }) ++ [some (AM.fresh ob2)]) := by
  have hlive : live H o g = some ob := by simp [live, ho, hg]
  have hat : obAt H o = some ob := by simp [obAt, ho]
  have hxi := flats_ids hx
  have hl' := lendArgs_flats (H := H) hrw (o := o) (g := g) (i := 0) hx
  have hids : idsL (xs ++ [.ptr o 0 0 g]) = [o] := by rw [idsL_app, hxi.1]; rfl
  have hre : reach H reachFuel (idsL (xs ++ [.ptr o 0 0 g])) [] = [o] := by
    rw [hids]
    exact reach_box ho hi
  have hin : intoN H [o] o g = some (0, 0) := by simp [intoN, hlive, idxOf]
  have hn0 : 0 < n := by omega
  refine Ev1.of (out := out) (l := l) hT hF hb hl' ?_ ?_ hex hr ?_
  · rw [hre]
    simp only [Bool.and_eq_true, decide_eq_true_eq, List.length_append, List.length_cons, List.length_nil]
    refine ⟨List.all_eq_true.2 fun x hx => ?_, by omega⟩
    rw [List.mem_replicate] at hx
    rw [hx.2]; rfl
  · rw [hre]
    have e1 : renL (intoN H [o]) (fun t => t) (xs ++ [.ptr o 0 0 g]) = xs ++ [.ptr 0 0 0 0] := by
      rw [renL_app, renL_flat xs hxi.1 (fun _ _ => rfl)]
      simp [renL, ren, hin]
    have e2 : ([o].map fun o' => (obAt H o').map (renObj (intoN H [o]) (fun _ => (xs ++ [AV.ptr o 0 0 g]).length + 1) 0)) = [some { ob with p := rt n ob.p, g := 0, tg := n }] := by
      simp only [List.map_cons, List.map_nil, hat, Option.map_some, renObj, List.length_append, List.length_cons, List.length_nil]
      rw [show xs.length + (0 + 1) + 1 = n by omega]
      have e : ren (intoN H [o]) (fun _ => n) ob.p = rt n ob.p := ren_same ob.p (fun o g h => by rw [hi] at h; cases h) (fun _ _ => rfl)
      rw [e]
    rw [e1, e2]
    exact he
  · rw [hre]
    unfold wrap
    have h0 : out.H[0]? = some (some ob1) := by rw [hH]; rfl
    have hat1 : obAt out.H 0 = some ob1 := by simp [obAt, h0]
    obtain ⟨h1, h2⟩ := live_iff.1 ho1
    have hre1 : reach out.H reachFuel (List.range [o].length ++ ids (resultV l)) [] = [0, o1] := by
      rw [hv]
      exact reach_box2 h0 hi1 h1 (plainP_ids hp2) hne
    have hat2 : obAt out.H o1 = some ob2 := by simp [obAt, h1]
    have hbt : ∀ k, k = 0 ∨ k = n → backTag (List.replicate (xs.length + 1) ⟨[], []⟩ ++ [⟨[], tagsObjs ([o].map (obAt H))⟩]) k = some (bk n t k) := by
      rintro k (rfl | rfl)
      · unfold backTag bk
        rw [if_pos rfl, if_neg (by omega)]
      · unfold backTag bk
        rw [if_neg (by omega), if_pos rfl]
        rw [List.getElem?_append_right (by simp; omega)]
        simp [show k - 1 - (xs.length + 1) = 0 by omega, tagsObjs, hat, hj]
    have hgo : ∀ k, k = 0 ∨ k = n → goneOf (List.replicate (xs.length + 1) ⟨[], []⟩ ++ [⟨[], tagsObjs ([o].map (obAt H))⟩]) k = [] := by
      rintro k (rfl | rfl)
      · rfl
      · unfold goneOf
        rw [if_neg (by omega)]
        rw [List.getElem?_append_right (by simp; omega)]
        simp [show k - 1 - (xs.length + 1) = 0 by omega]
    generalize (List.replicate (xs.length + 1) ⟨[], []⟩ ++ [⟨[], tagsObjs ([o].map (obAt H))⟩] : List Lent) = L at *
    have hbT : ∀ k, k = 0 ∨ k = n → backT L k = bk n t k := fun k hk => by unfold backT; rw [hbt k hk]; rfl
    simp only [hre1]
    rw [show ([0, o1].filter fun o' => decide ([o].length ≤ o')) = [o1] by
      simp only [List.length_cons, List.length_nil]
      rw [List.filter_cons_of_neg (by simp), List.filter_cons_of_pos (by simp; omega), List.filter_nil]]
    have hus : (tags (resultV l) ++ tagsObjs ((List.range [o].length).map (obAt out.H)) ++ tagsObjs ([o1].map (obAt out.H))) = tags (resultV l) ++ tagsOb ob1 ++ [0] := by
      have : tagsOb ob2 = [0] := by unfold tagsOb; rw [hid2, htg2]; cases hq : ob2.p <;> simp [hq, plainP] at hp2 <;> simp
      simp [tagsObjs, hat1, hat2, this, List.range_succ]
    rw [hus]
    have hu2 : ∀ k ∈ tags (resultV l) ++ tagsOb ob1 ++ [0], k = 0 ∨ k = n := fun k hk => by
      rcases List.mem_append.1 hk with hk | hk
      · exact hu k hk
      · simp at hk; exact .inl hk
    rw [if_pos (List.all_eq_true.2 fun k hk => by rw [hbt k (hu2 k hk)]; rfl)]
    rw [show (tags (resultV l) ++ tagsOb ob1 ++ ([0] : List Nat)).flatMap (goneOf L) = [] from List.flatMap_eq_nil_iff.2 fun k hk => hgo k (hu2 k hk)]
    simp only [strike, List.map_cons, List.map_nil, putBack, hat1, hat2, Option.map_some, Option.some.injEq, Prod.mk.injEq]
    have hrho : ∀ o' g', o' ∈ [o1] → backN H [o] [o1] out.H o' g' = if o' = o1 ∧ g' = g1 then some (H.length, 0) else none := by
      intro o' g' hm
      simp only [List.mem_singleton] at hm
      subst hm
      unfold backN
      by_cases hgg : g' = g1
      · subst hgg
        rw [ho1]
        have : ¬ (o' < [o].length) := by simp; omega
        simp only [if_neg this]
        simp [idxOf]
      · have : live out.H o' g' = none := by
          simp only [live, h1]
          rw [if_neg (fun e => hgg (e.symm.trans h2))]
        rw [this]
        simp [hgg]
    refine ⟨ren_same _ (fun o' g' h => hrho o' g' (by rw [← hv]; exact h)) (fun k hk => hbT k (hu k (List.mem_append_left _ hk))), ?_⟩
    have hgb : genBack H [o] 0 ob1.g = g + (if ob1.g = 0 then 0 else 1) := by simp [genBack, hat, hg]
    rw [hgb]
    have e2 : renObj (backN H [o] [o1] out.H) (backT L) 0 ob2 = AM.fresh ob2 := by
      simp only [renObj, plainP_ren hp2, AM.fresh, htg2, hbT 0 (.inl rfl)]
      unfold bk; rw [if_neg (by omega)]
    rw [e2]
    congr 3
    simp only [renObj]
    rw [hbT _ ht1]
    congr 1
    refine ren_same _ (fun o g h => by rw [hi1] at h; cases h) fun k hk => ?_
    unfold tagsOb at hu
    rw [if_pos hid1] at hu
    exact hbT k (hu k (List.mem_append_right _ hk))

end

end Go.AM

/- Calls that are handed a pointer to an object that leads to others: all of them go in, are worked on, and come back. -/
namespace Go.AM

/-- what comes back lies where it lay -/
theorem putBack_length {ρ : Nat → Nat → Option (Nat × Nat)} {τ : Nat → Nat} {H : Heap} {π : List Nat} {H1 : Heap} : ∀ (l : List Nat) (k : Nat) (B : Heap), (putBack ρ τ H π H1 k l B).length = B.length
  | [], _, _ => rfl
  | o :: r, k, B => by rw [putBack, putBack_length r]; simp [upd]

theorem putBack_ne {ρ : Nat → Nat → Option (Nat × Nat)} {τ : Nat → Nat} {H : Heap} {π : List Nat} {H1 : Heap} {j : Nat} : ∀ (l : List Nat) (k : Nat) (B : Heap), j ∉ l → (putBack ρ τ H π H1 k l B)[j]? = B[j]?
  | [], _, _, _ => rfl
  | o :: r, k, B, h => by
    rw [putBack, putBack_ne r _ _ (fun h2 => h (List.mem_cons_of_mem _ h2))]
    unfold upd
    rw [List.getElem?_set_ne (fun h2 => h (by rw [h2]; exact List.mem_cons_self ..))]

theorem putBack_at {ρ : Nat → Nat → Option (Nat × Nat)} {τ : Nat → Nat} {H : Heap} {π : List Nat} {H1 : Heap} : ∀ (l : List Nat) (k i o : Nat) (B : Heap), l.Nodup → l[i]? = some o → o < B.length →
    (putBack ρ τ H π H1 k l B)[o]? = some ((obAt H1 (k + i)).map fun ob => renObj ρ τ (genBack H π (k + i) ob.g) ob)
  | [], _, i, _, _, _, h, _ => by simp at h
  | a :: r, k, 0, o, B, hn, h, hl => by
    simp at h
    subst h
    rw [List.nodup_cons] at hn
    rw [putBack, putBack_ne r _ _ hn.1]
    unfold upd
    rw [List.getElem?_set_self hl, Nat.add_zero]
  | a :: r, k, i + 1, o, B, hn, h, hl => by
    rw [List.nodup_cons] at hn
    rw [putBack, putBack_at r (k + 1) i o _ hn.2 (by simpa using h) (by simpa [upd] using hl), show k + 1 + i = k + (i + 1) by omega]

theorem renObj_same {ρ : Nat → Nat → Option (Nat × Nat)} {τ τ' : Nat → Nat} {g : Nat} {ob : Obj} (h1 : ∀ t ∈ tags ob.p, τ t = τ' t) (h2 : τ ob.tg = τ' ob.tg) : renObj ρ τ g ob = renObj ρ τ' g ob := by
  unfold renObj
  rw [h2, ren_same ob.p (fun _ _ _ => rfl) h1]

theorem putBack_same {ρ : Nat → Nat → Option (Nat × Nat)} {τ τ' : Nat → Nat} {H : Heap} {π : List Nat} {H1 : Heap} : ∀ (l : List Nat) (k : Nat) (B : Heap), (∀ j, k ≤ j → j < k + l.length → ∀ ob, obAt H1 j = some ob → (∀ t ∈ tags ob.p, τ t = τ' t) ∧ τ ob.tg = τ' ob.tg) →
    putBack ρ τ H π H1 k l B = putBack ρ τ' H π H1 k l B
  | [], _, _, _ => rfl
  | o :: r, k, B, h => by
    rw [putBack, putBack]
    have e : ((obAt H1 k).map fun ob => renObj ρ τ (genBack H π k ob.g) ob) = (obAt H1 k).map fun ob => renObj ρ τ' (genBack H π k ob.g) ob := by
      cases ho : obAt H1 k with
      | none => rfl
      | some ob =>
        obtain ⟨h1, h2⟩ := h k (Nat.le_refl _) (by simp) ob ho
        simp only [Option.map_some]
        rw [renObj_same h1 h2]
    rw [e]
    exact putBack_same r (k + 1) _ fun j h1 h2 => h j (by omega) (by simp only [List.length_cons]; omega)

section
variable {C : Ctx} {f : Nat} {H : Heap} {T : Cf}

/-- tags within an object -/
def okTags (n : Nat) (ob : Obj) : Prop := (∀ t ∈ tags ob.p, t = 0 ∨ t = n) ∧ (ob.tg = 0 ∨ ob.tg = n)

theorem okTags.ob {n : Nat} {ob : Obj} (h : okTags n ob) (hp : ∀ l, ob.p ≠ .pm l) : ∀ t ∈ tagsOb ob, t = 0 ∨ t = n := by
  intro t ht
  unfold tagsOb at ht
  split at ht
  · exact h.1 t ht
  · rcases List.mem_cons.1 ht with rfl | ht
    · exact h.2
    · split at ht
      · rename_i l hl; exact absurd hl (hp l)
      · simp at ht

/-- a call with a pointer, and what lies behind it -/
theorem Ev1.grp (hT : Below C T) {o n t : Nat} {π new : List Nat} {xs ys : List AV} {lents : List Lent} {fn : Func} {c : Code} {out : Out} {l : List AV}
    (hF : C.P.funcs[f]? = some fn) (hb : fn.body = some c) (hrw : C.rw f 0 = false)
    (hπ : reach H reachFuel [o] [] = π) (hin : intoN H π o 0 = some (0, 0))
    (hl : lendArgs C f H 1 xs = some (ys, lents)) (hiy : idsL ys = []) (hob : lents.all (fun x => disjoint x.objs π) = true) (hn : ys.length + 2 = n) (hng : n < gtag)
    (hj : joinTags (tagsObjs (π.map (obAt H))) = some t)
    (he : Run C T f π.length c (numbered 0 (coerce C (.ptr 0 0 0 0 :: ys) (paramsOf C f))) (π.map fun o => (obAt H o).map (renObj (intoN H π) (fun _ => n) 0)) out)
    (hex : out.ex = .normal ∨ out.ex = .ret) (hr : resultsV C out.fr out.H fn.results.toList = some l)
    (hK : (reach out.H reachFuel (List.range π.length ++ ids (resultV l)) []).filter (fun o => decide (π.length ≤ o)) = new)
    (hu : ∀ k ∈ tags (resultV l), k = 0 ∨ k = n)
    (hu2 : ∀ k, (k < π.length ∨ k ∈ new) → ∀ ob, obAt out.H k = some ob → okTags n ob ∧ ∀ l, ob.p ≠ .pm l) :
    Ev1 C f (.ptr o 0 0 0 :: xs) H (ren (backN H π new out.H) (bk n t) (resultV l), putBack (backN H π new out.H) (bk n t) H π out.H 0 π H ++ new.map fun o => (obAt out.H o).map (renObj (backN H π new out.H) (bk n t) 0)) := by
  have hl' : lendArgs C f H 0 (.ptr o 0 0 0 :: xs) = some (.ptr o 0 0 0 :: ys, ⟨[], []⟩ :: lents) := by
    simp only [lendArgs, hrw]
    simp [lendV, lend1, tags, hl]
  have hre : reach H reachFuel (idsL (.ptr o 0 0 0 :: ys)) [] = π := by
    rw [show idsL (.ptr o 0 0 0 :: ys) = [o] by simp [idsL, ids, hiy]]
    exact hπ
  have hlen := lendArgs_len hl
  have hn0 : 0 < n := by omega
  refine Ev1.of (out := out) (l := l) hT hF hb hl' ?_ ?_ hex hr ?_
  · rw [hre]
    simp only [List.all_cons, Bool.and_eq_true, decide_eq_true_eq, List.length_cons]
    exact ⟨⟨rfl, hob⟩, by omega⟩
  · rw [hre]
    have e1 : renL (intoN H π) (fun t => t) (.ptr o 0 0 0 :: ys) = .ptr 0 0 0 0 :: ys := by
      simp only [renL, ren, hin]
      rw [renL_flat ys hiy (fun _ _ => rfl)]
    rw [e1]
    rw [show (AV.ptr o 0 0 0 :: ys).length + 1 = n by simp only [List.length_cons]; omega]
    exact he
  · rw [hre]
    unfold wrap
    have hbt : ∀ k, k = 0 ∨ k = n → backTag (⟨[], []⟩ :: lents ++ [⟨[], tagsObjs (π.map (obAt H))⟩]) k = some (bk n t k) := by
      rintro k (rfl | rfl)
      · unfold backTag bk
        rw [if_pos rfl, if_neg (by omega)]
      · unfold backTag bk
        rw [if_neg (by omega), if_pos rfl]
        rw [List.cons_append, show k - 1 = (k - 2) + 1 by omega, List.getElem?_cons_succ, List.getElem?_append_right (by omega), show k - 2 - lents.length = 0 by omega]
        simp [hj]
    have hgo : ∀ k, k = 0 ∨ k = n → goneOf (⟨[], []⟩ :: lents ++ [⟨[], tagsObjs (π.map (obAt H))⟩]) k = [] := by
      rintro k (rfl | rfl)
      · rfl
      · unfold goneOf
        rw [if_neg (by omega)]
        rw [List.cons_append, show k - 1 = (k - 2) + 1 by omega, List.getElem?_cons_succ, List.getElem?_append_right (by omega), show k - 2 - lents.length = 0 by omega]
        rfl
    generalize (⟨[], []⟩ :: lents ++ [⟨[], tagsObjs (π.map (obAt H))⟩] : List Lent) = L at *
    have hbT : ∀ k, k = 0 ∨ k = n → backT L k = bk n t k := fun k hk => by unfold backT; rw [hbt k hk]; rfl
    simp only [hK]
    have htl : ∀ (M : List Nat), (∀ k ∈ M, k < π.length ∨ k ∈ new) → ∀ x ∈ tagsObjs (M.map (obAt out.H)), x = 0 ∨ x = n := by
      intro M hM
      induction M with
      | nil => intro x hx; simp [tagsObjs] at hx
      | cons k M ih =>
        intro x hx
        rw [List.map_cons] at hx
        cases ho : obAt out.H k with
        | none =>
          rw [ho, tagsObjs] at hx
          exact ih (fun j hj => hM j (List.mem_cons_of_mem _ hj)) x hx
        | some ob =>
          rw [ho, tagsObjs] at hx
          rcases List.mem_append.1 hx with hx | hx
          · obtain ⟨q1, q2⟩ := hu2 k (hM k (List.mem_cons_self ..)) ob ho
            exact q1.ob q2 x hx
          · exact ih (fun j hj => hM j (List.mem_cons_of_mem _ hj)) x hx
    have hus : ∀ x ∈ tags (resultV l) ++ tagsObjs ((List.range π.length).map (obAt out.H)) ++ tagsObjs (new.map (obAt out.H)), x = 0 ∨ x = n := by
      intro x hx
      rcases List.mem_append.1 hx with hx | hx
      · rcases List.mem_append.1 hx with hx | hx
        · exact hu x hx
        · exact htl _ (fun k hk => .inl (List.mem_range.1 hk)) x hx
      · exact htl _ (fun k hk => .inr hk) x hx
    rw [if_pos (List.all_eq_true.2 fun k hk => by rw [hbt k (hus k hk)]; rfl)]
    rw [show (tags (resultV l) ++ tagsObjs ((List.range π.length).map (obAt out.H)) ++ tagsObjs (new.map (obAt out.H))).flatMap (goneOf L) = [] from List.flatMap_eq_nil_iff.2 fun k hk => hgo k (hus k hk)]
    simp only [strike, Option.some.injEq, Prod.mk.injEq]
    refine ⟨ren_same _ (fun _ _ _ => rfl) (fun k hk => hbT k (hu k hk)), ?_⟩
    congr 1
    · refine putBack_same π 0 H fun j h1 h2 ob ho => ?_
      obtain ⟨⟨q1, q2⟩, _⟩ := hu2 j (.inl (by omega)) ob ho
      exact ⟨fun t ht => hbT t (q1 t ht), hbT _ q2⟩
    · refine List.map_congr_left fun k hk => ?_
      cases ho : obAt out.H k with
      | none => rfl
      | some ob =>
        obtain ⟨⟨q1, q2⟩, _⟩ := hu2 k (.inr hk) ob ho
        simp only [Option.map_some]
        rw [renObj_same (fun t ht => hbT t (q1 t ht)) (hbT _ q2)]

end

end Go.AM

/- Bytes appended to a slice that begins later; a call that tells a new object. -/
namespace Go.AM

section
variable {C : Ctx} {f : Nat} {H : Heap} {T : Cf}

/-- bytes appended to a slice's rest -/
theorem app_off {T e : Nat} (hT : und C T = .slice e) (he : und C e = .int .u8) (hs : sizeT C e = 1) (hb : bytesT C e = 1) (hz : zeroOk C e = true) {o g t off : Nat} {ob : Obj} {l m : List UInt8} {src : AV}
    (ho : H[o]? = some (some ob)) (h : RwT (.pb l) g t ob) (hoff : off ≤ l.length) (hsrc : srcV H src = some (.pb m, 0) ∨ (srcV H src = some (.pn, 0) ∧ m = [])) (hn : l.length + m.length ≤ 100000000) :
    ∃ ob', RwT (.pb (l.drop off ++ m)) (g + 1) t ob' ∧ appendV C H T (.sl o off (l.drop off).length g) src = some (.sl o 0 ((l.drop off).length + m.length) (g + 1), upd H o (some ob')) := by
  have hlive : live H o g = some ob := by simp [live, ho, h.g]
  have hroom : roomOk C e ((l.drop off).length + m.length) = true := by simp [roomOk, hb]; omega
  obtain ⟨p, hp1, hp2⟩ : ∃ p, srcV H src = some (p, 0) ∧ PB p m := by
    rcases hsrc with h1 | ⟨h1, h2⟩
    · exact ⟨_, h1, .inl rfl⟩
    · exact ⟨_, h1, .inr ⟨rfl, h2⟩⟩
  have hpl := hp2.plen
  have hpa : papp (.pb (l.drop off)) p = some (.pb (l.drop off ++ m)) := by
    rcases hp2 with rfl | ⟨rfl, rfl⟩
    · rfl
    · simp [papp]
  have hj : joinTag t 0 = some t := by
    unfold joinTag
    by_cases h0 : t = 0
    · rw [if_pos h0, h0]
    · rw [if_neg h0, if_pos (.inl rfl)]
  have hps : psub (.pb l) off (l.drop off).length = some (.pb (l.drop off)) := by
    simp only [psub, List.length_drop]
    rw [if_pos (by omega)]
    congr 2
    rw [List.take_of_length_le (by simp)]
  refine ⟨{ ob with p := .pb (l.drop off ++ m), g := g + 1, cap := (match ob.cap with | some c => if off + (l.drop off).length + AM.plen p ≤ c then some (c - off) else none | none => none), z := (if AM.plen ob.p = 0 then ob.z else 1), tg := t }, ⟨rfl, rfl, h.row, h.ids, rfl⟩, ?_⟩
  unfold appendV
  simp only [hT, hs, hz, hp1, hlive, h.row, h.ids, h.p, h.tg]
  simp only [show ¬ ((1 : Nat) = 0 ∨ true = false) by simp, if_false]
  have hc : True ∧ True ∧ off + (l.drop off).length = AM.plen (.pb l) ∧ pesz (.pb l) = 1 ∧ roomOk C e ((l.drop off).length + AM.plen p) = true := ⟨trivial, trivial, by simp [AM.plen]; omega, rfl, by rw [hpl]; exact hroom⟩
  rw [if_pos hc]
  simp only [hps, hpa, hj, pesz]
  simp [hpl]
  rfl

/-- a call that tells a pointer to a new object -/
theorem Ev1.newP (hT : Below C T) {args xs : List AV} {lents : List Lent} {fn : Func} {c : Code} {rest : List AV} {ob : Obj} {n : Nat}
    (hF : C.P.funcs[f]? = some fn) (hb : fn.body = some c) (hl : lendArgs C f H 0 args = some (xs, lents)) (hi : idsL xs = []) (hn : xs.length + 1 = n) (hng : n < gtag) (hri : idsL rest = []) (hrt : tagsL rest = []) (hnt : noTups rest = true)
    (hip : ids ob.p = []) (htp : ∀ k ∈ tags ob.p, k = 0) (htg : ob.tg = 0) (hg : ob.g = 0) (hpm : ∀ l, ob.p ≠ .pm l)
    (h : Tells (Rets fun fr H1 => ∃ o, resultsV C fr H1 fn.results.toList = some (.ptr o 0 0 0 :: rest) ∧ H1[o]? = some (some ob)) C T f 0 c (numbered 0 (coerce C xs (paramsOf C f))) []) :
    Ev1 C f args H (resultV (.ptr H.length 0 0 0 :: rest), H ++ [some ob]) := by
  obtain ⟨⟨ex, fr, H1⟩, ⟨he, o, hr, ho⟩, hrun⟩ := h
  simp only at he hr ho
  subst he
  have hre : reach H reachFuel (idsL xs) [] = [] := by
    rw [hi, reach_none]
  refine Ev1.of (out := ⟨.ret, fr, H1⟩) (l := .ptr o 0 0 0 :: rest) hT hF hb hl ?_ ?_ (.inr rfl) hr ?_
  · rw [hre]
    simp only [Bool.and_eq_true, decide_eq_true_eq]
    refine ⟨List.all_eq_true.2 fun x _ => ?_, by omega⟩
    exact disjoint_nil x.objs
  · rw [hre]
    rw [renL_flat xs hi (fun _ _ => rfl)]
    exact hrun
  · rw [hre]
    unfold wrap
    have hv : ids (resultV (.ptr o 0 0 0 :: rest)) = [o] := by rw [ids_result (l := .ptr o 0 0 0 :: rest) hnt]; simp [idsL, ids, hri]
    have hvt : tags (resultV (.ptr o 0 0 0 :: rest)) = [] := by rw [tags_result (l := .ptr o 0 0 0 :: rest) hnt]; simp [tagsL, tags, hrt]
    have hK : reach H1 reachFuel (List.range ([] : List Nat).length ++ ids (resultV (.ptr o 0 0 0 :: rest))) [] = [o] := by
      rw [hv]
      exact reach_box ho hip
    simp only [hK]
    rw [show ([o].filter fun o' => decide (([] : List Nat).length ≤ o')) = [o] by simp]
    have hat : obAt H1 o = some ob := by simp [obAt, ho]
    have hlv : live H1 o 0 = some ob := by simp [live, ho, hg]
    have hus : ∀ x ∈ tags (resultV (.ptr o 0 0 0 :: rest)) ++ tagsObjs ((List.range ([] : List Nat).length).map (obAt H1)) ++ tagsObjs ([o].map (obAt H1)), x = 0 := by
      intro x hx
      rw [hvt] at hx
      simp only [List.length_nil, List.range_zero, List.map_nil, tagsObjs, List.nil_append, List.map_cons, hat, List.append_nil] at hx
      unfold tagsOb at hx
      split at hx
      · exact htp x hx
      · rcases List.mem_cons.1 hx with rfl | hx
        · exact htg
        · split at hx
          · rename_i l hl; exact absurd hl (hpm l)
          · simp at hx
    have hb0 : ∀ L : List Lent, backTag L 0 = some 0 := fun L => by unfold backTag; rw [if_pos rfl]
    have hT0 : ∀ L : List Lent, backT L 0 = 0 := fun L => by unfold backT; rw [hb0]; rfl
    rw [if_pos (List.all_eq_true.2 fun k hk => by rw [hus k hk, hb0]; rfl)]
    rw [List.flatMap_eq_nil_iff.2 fun k hk => by rw [hus k hk]; rfl]
    simp only [strike, putBack, List.map_cons, List.map_nil, hat, Option.map_some, Option.some.injEq, Prod.mk.injEq]
    have hrho : backN H [] [o] H1 o 0 = some (H.length, 0) := by
      unfold backN
      rw [hlv]
      simp [idxOf]
    refine ⟨?_, ?_⟩
    · rw [ren_result (w := .ptr H.length 0 0 0) (by simp [ren, hrho]) (renL_flat rest hri (fun t ht => by rw [hrt] at ht; cases ht)) (by exact hnt) (by exact hnt)]
    · congr 2
      unfold renObj
      rw [htg, hT0, ren_flat ob.p hip (fun t ht => by rw [htp t ht]; exact hT0 _)]
      cases ob
      simp only at htg hg
      subst htg hg
      rfl

end

end Go.AM

/- Arguments of laws: rows of slices of bytes. -/
namespace Go.AM
open Go.ChangeShapes Go.WideShapes Go.ChangeAt Go.RowKit
set_option linter.unusedSimpArgs false

section
variable {H : Type} {enc : TypeId × Value → H} {P : Program} {W : World}

/-- a slice of bytes as a cell of a row -/
def bRow (r : Nat × List UInt8) : AV := .ro r.1 (.pb r.2) 0

/-- a row of slices of bytes that is an argument -/
theorem arg_bytess {t e e8 : TypeId} {b0 : Nat} {v : Value} {d : DataW H} {ps : List MemPlace} (ht : P.underlying t = some (.slice e)) (he : P.underlying e = some (.slice e8)) (h8 : P.underlying e8 = some (.int .u8)) (hc8 : P.cellsOf e8 = 1) (hc : P.cellsOf e = 1)
    (hval : Value.okWide P W .any b0 t v) (hd : DataW.Trod enc P W 0 (fun _ => true) true t v d ps) :
    ∃ (c : Nat) (rows : List (Nat × List UInt8)), (∀ r ∈ rows, (r.1 = 0 → r.2 = []) ∧ r.2.length ≤ maxLen) ∧ (c = 0 → rows = []) ∧ rows.length ≤ maxLen ∧ VRel (start W) (T0 W.heap.size) (.ro c (.pc (rows.map bRow)) 1) v := by
  obtain ⟨a0, len0, cap0, rfl⟩ := okWide_slice ht hval
  obtain ⟨fuel, hf⟩ := hd
  rcases DataW.trod_slice ht hf with ⟨hcs, _⟩ | ⟨a, len, cap, elems, rest, m, _, hcs, hxe, hb, hlc, hcm, hel0, hel, _⟩
  · simp [Value.cells] at hcs
    obtain ⟨rfl, rfl, rfl⟩ := hcs
    refine ⟨0, [], by simp, fun _ => rfl, by simp, ?_⟩
    simp only [VRel, V1Rel, SRel, RV]
    exact ⟨none, 0, rfl, ⟨Nat.le_refl _, fun _ => ⟨rfl, rfl⟩, fun h => absurd rfl h, fun h => by simp at h⟩, fun a ha => by cases ha⟩
  · simp [Value.cells] at hcs
    obtain ⟨rfl, rfl, rfl⟩ := hcs
    have each : ∀ i : Nat, i < len0 → ∃ (r : Nat × List UInt8) (u : Value), ((r.1 = 0 → r.2 = []) ∧ r.2.length ≤ maxLen) ∧ u.oneCell' = true ∧ SRel (start W) (T0 W.heap.size) (.ro r.1 (.pb r.2) 1) u ∧ W.cell? ((a.add (i * 1)).add 0) = some u := by
      intro i hi
      have h := hel i hi
      rw [hc, List.getElem?_eq_getElem (by omega), Option.bind_eq_some_iff] at h
      obtain ⟨cs, h1, h2⟩ := h
      obtain ⟨_, hsz, hcell⟩ := World.cells?_some h1
      obtain ⟨u, rfl⟩ : ∃ u, cs = [u] := by
        match cs, hsz with
        | [u], _ => exact ⟨u, rfl⟩
      obtain ⟨c, l, q1, q2, q3, q4⟩ := cell_bytes he h8 hc8 h2
      exact ⟨(c, l), u, ⟨q1, q2⟩, q3, q4, by rw [hcell 0 (by omega)]; rfl⟩
    have each' : ∀ i : Nat, ∃ r : Nat × List UInt8, i < len0 → ∃ u : Value, ((r.1 = 0 → r.2 = []) ∧ r.2.length ≤ maxLen) ∧ u.oneCell' = true ∧ SRel (start W) (T0 W.heap.size) (.ro r.1 (.pb r.2) 1) u ∧ W.cell? ((a.add (i * 1)).add 0) = some u := by
      intro i
      by_cases hi : i < len0
      · obtain ⟨r, u, h⟩ := each i hi
        exact ⟨r, fun _ => ⟨u, h⟩⟩
      · exact ⟨(0, []), fun h => absurd h hi⟩
    obtain ⟨f, hfe⟩ := Classical.axiomOfChoice each'
    have hlen : ((List.range len0).map f).length = len0 := by simp
    refine ⟨2, (List.range len0).map f, ?_, (fun h => by cases h), by rw [hlen]; omega, ?_⟩
    · intro r hr
      obtain ⟨i, hi, rfl⟩ := List.mem_map.1 hr
      obtain ⟨u, h, _⟩ := hfe i (List.mem_range.1 hi)
      exact h
    · simp only [VRel, V1Rel, SRel, RV]
      have hpl : plen (.pc (((List.range len0).map f).map bRow)) = len0 := by simp [plen]
      rw [hpl]
      refine ⟨some a, cap0, rfl, ⟨hlc, fun h => by simp at h, fun _ => rfl, fun h => by simp at h⟩, fun a' ha' hn => ?_⟩
      obtain rfl := Option.some.inj ha'
      obtain ⟨u0, _, _, _, h0⟩ := hfe 0 (by omega)
      have hsp : a.spot = none := by
        have := World.cell?_spot h0
        simpa [Addr.add] using this
      obtain ⟨b, off, spot⟩ := a
      simp only at hsp
      subst hsp
      refine ⟨rfl, ?_, ?_⟩
      · rw [add_plain, add_plain] at h0
        exact start_nt (block_lt_of_cell h0) (by omega)
      · rw [RP_pc]
        intro j x hx
        rw [List.map_map, List.getElem?_map] at hx
        cases hj : (List.range len0)[j]? with
        | none => rw [hj] at hx; cases hx
        | some i =>
          rw [hj] at hx
          simp only [Option.map_some, Option.some.injEq, Function.comp] at hx
          subst hx
          obtain ⟨hi1, hi2⟩ := List.getElem?_eq_some_iff.1 hj
          simp at hi1 hi2
          subst hi2
          obtain ⟨u, _, h1, h2, h3⟩ := hfe j hi1
          rw [add_plain, add_plain] at h3
          refine ⟨u, by rw [← h3]; simp only [Nat.mul_one, Nat.add_zero]; rfl, h1, ?_⟩
          simp only [SRel] at h2
          unfold bRow
          rw [RV] at h2 ⊢
          exact h2

end

end Go.AM

/- A call with a pointer: where what lay behind it lies afterwards. -/
namespace Go.AM
set_option linter.unusedSimpArgs false

theorem idxOf_at {k : Nat} : ∀ {new : List Nat}, k ∈ new → ∃ i, new[i]? = some k ∧ ∀ j, idxOf new k j = some (j + i)
  | a :: r, h => by
    by_cases e : a = k
    · subst e
      exact ⟨0, rfl, fun j => by simp [idxOf]⟩
    · have hk : k ∈ r := by
        rcases List.mem_cons.1 h with h | h
        · exact absurd h.symm e
        · exact h
      obtain ⟨i, h1, h2⟩ := idxOf_at hk
      refine ⟨i + 1, by simpa using h1, fun j => ?_⟩
      unfold idxOf
      rw [if_neg e, h2]
      congr 1
      omega

/-- where a callee's object lies afterwards -/
def At (H : Heap) (π new : List Nat) (k o' : Nat) : Prop := (k < π.length ∧ π[k]? = some o') ∨ (π.length ≤ k ∧ ∃ i, new[i]? = some k ∧ o' = H.length + i)

theorem At.inj {H : Heap} {π new : List Nat} {k k2 o o2 : Nat} (hn : π.Nodup) (hlt : ∀ x ∈ π, x < H.length) (h : At H π new k o) (h2 : At H π new k2 o2) (hne : k ≠ k2) : o ≠ o2 := by
  rcases h with ⟨h1, h3⟩ | ⟨h1, i, h3, rfl⟩ <;> rcases h2 with ⟨g1, g3⟩ | ⟨g1, j, g3, rfl⟩
  · intro e
    subst e
    rw [List.getElem?_eq_getElem h1] at h3
    rw [List.getElem?_eq_getElem g1] at g3
    have := (List.getElem_inj hn (h₀ := h1) (h₁ := g1)).1 ((Option.some.inj h3).trans (Option.some.inj g3).symm)
    exact hne this
  · have := hlt o (List.mem_of_getElem? h3)
    omega
  · have := hlt o2 (List.mem_of_getElem? g3)
    omega
  · intro e
    have : i = j := by omega
    subst this
    rw [h3] at g3
    exact hne (Option.some.inj g3)

theorem grp_back {H E : Heap} {π new : List Nat} {τ : Nat → Nat} (hn : π.Nodup) (hlt : ∀ x ∈ π, x < H.length) {k : Nat} {ob : Obj} (hk : obAt E k = some ob) (hm : k < π.length ∨ (π.length ≤ k ∧ k ∈ new)) :
    ∃ o' g', backN H π new E k ob.g = some (o', g') ∧ (putBack (backN H π new E) τ H π E 0 π H ++ new.map fun o => (obAt E o).map (renObj (backN H π new E) τ 0))[o']? = some (some (renObj (backN H π new E) τ g' ob)) ∧ At H π new k o' ∧ (k < π.length → g' = genBack H π k ob.g) := by
  have hl : live E k ob.g = some ob := by
    unfold obAt at hk
    unfold live
    cases h : E[k]? with
    | none => rw [h] at hk; simp at hk
    | some x =>
      cases x with
      | none => rw [h] at hk; simp at hk
      | some y =>
        rw [h] at hk
        simp at hk
        subst hk
        simp
  rcases hm with hm | ⟨hm, hmem⟩
  · obtain ⟨o', ho'⟩ : ∃ o', π[k]? = some o' := ⟨_, List.getElem?_eq_getElem hm⟩
    have hol := hlt o' (List.mem_of_getElem? ho')
    refine ⟨o', genBack H π k ob.g, ?_, ?_, .inl ⟨hm, ho'⟩, fun _ => rfl⟩
    · unfold backN
      rw [hl]
      simp only
      rw [if_pos hm, ho']
      rfl
    · rw [List.getElem?_append_left (by rw [putBack_length]; exact hol)]
      have := putBack_at (ρ := backN H π new E) (τ := τ) (H := H) (π := π) (H1 := E) π 0 k o' H hn ho' hol
      rw [this, Nat.zero_add, hk]
      rfl
  · obtain ⟨i, hi, hj⟩ := idxOf_at hmem
    refine ⟨H.length + i, 0, ?_, ?_, .inr ⟨hm, i, hi, rfl⟩, fun h => by omega⟩
    · unfold backN
      rw [hl]
      simp only
      rw [if_neg (by omega), hj]
      rfl
    · rw [List.getElem?_append_right (by rw [putBack_length]; omega), putBack_length, Nat.add_sub_cancel_left, List.getElem?_map, hi]
      simp [hk]

theorem grp_rest {H E : Heap} {π new : List Nat} {τ : Nat → Nat} {ρ : Nat → Nat → Option (Nat × Nat)} {j : Nat} (hj : j < H.length) (hjp : j ∉ π) : (putBack ρ τ H π E 0 π H ++ new.map fun o => (obAt E o).map (renObj ρ τ 0))[j]? = H[j]? := by
  rw [List.getElem?_append_left (by rw [putBack_length]; exact hj), putBack_ne _ _ _ hjp]

end Go.AM

/- A call that tells a new slice of what it was lent: whoever owned that loses it. -/
namespace Go.AM
set_option linter.unusedSimpArgs false
open Go

section
variable {C : Ctx} {H : Heap} {f : Nat} {T : Cf}

theorem wrap_bor {lents : List Lent} {v : AV} {H1 : Heap} {o g bo : Nat} {ob : Obj} (hi : ids v = [o]) (ht : tags v = []) (hl : live H1 o g = some ob) (hob : ob.ids = false) (hp : ids ob.p = []) (hpm : ∀ l, ob.p ≠ .pm l) (htg : ob.tg = 1) (h0 : lents[0]? = some ⟨[bo], [0]⟩) :
    wrap H [] lents v H1 = some (ren (fun o' g' => if o' = o ∧ g' = g then some (H.length, 0) else none) (fun t => t) v, upd H bo none ++ [some { ob with p := ren (fun _ _ => none) (backT lents) ob.p, g := 0, tg := 0 }]) := by
  obtain ⟨h1, h2⟩ := live_iff.1 hl
  unfold wrap
  have hat : obAt H1 o = some ob := by simp [obAt, h1]
  have hρ : ren (backN H [] [o] H1) (backT lents) v = ren (fun o' g' => if o' = o ∧ g' = g then some (H.length, 0) else none) (fun t => t) v := by
    have key : ∀ o' g', o' ∈ ids v → backN H [] [o] H1 o' g' = if o' = o ∧ g' = g then some (H.length, 0) else none := by
      intro o' g' hm
      rw [hi] at hm
      simp only [List.mem_singleton] at hm
      subst hm
      unfold backN
      by_cases hg : g' = g
      · subst hg
        rw [hl]
        simp [idxOf]
      · have : live H1 o' g' = none := by
          simp only [live, h1]
          rw [if_neg (fun e => hg (e.symm.trans h2))]
        rw [this]
        simp [hg]
    exact ren_same v (fun o' g' hm => key o' g' hm) (by simp [ht])
  have hto : tagsOb ob = [1] := by
    unfold tagsOb
    rw [hob, htg]
    cases hq : ob.p <;> first | rfl | exact absurd hq (hpm _)
  have hb1 : backTag lents 1 = some 0 := by
    unfold backTag
    simp [h0, joinTags, joinTag]
  have hB1 : backT lents 1 = 0 := by unfold backT; rw [hb1]; rfl
  have hg1 : goneOf lents 1 = [bo] := by
    unfold goneOf
    simp [h0]
  simp only [List.length_nil, List.range_zero, List.nil_append, hi, reach_one h1 hob, ht, tagsObjs, List.append_nil, List.map_nil, hat, hto, List.map_cons, Nat.zero_le, decide_true, List.filter_cons_of_pos, List.filter_nil, strike, putBack]
  simp only [List.all_cons, List.all_nil, hb1, Option.isSome_some, Bool.and_true, if_true, List.flatMap_cons, List.flatMap_nil, hg1, List.append_nil, strike, Option.map_some, Option.some.injEq, Prod.mk.injEq]
  refine ⟨hρ, ?_⟩
  have hr : ren (backN H [] [o] H1) (backT lents) ob.p = ren (fun _ _ => none) (backT lents) ob.p := ren_same ob.p (fun o g h => by rw [hp] at h; cases h) (fun _ _ => rfl)
  simp only [renObj, hr, htg, hB1]

/-- a call that tells a new slice of cells that hold what its first argument lent -/
theorem Ev1.newBor (hT : Below C T) {args xs : List AV} {lents : List Lent} {fn : Func} {c : Code} {n bo : Nat} {P : List AV → Prop} {rest : List AV}
    (hF : C.P.funcs[f]? = some fn) (hb : fn.body = some c) (hl : lendArgs C f H 0 args = some (xs, lents)) (h0 : lents[0]? = some ⟨[bo], [0]⟩) (hi : idsL xs = []) (hn : xs.length + 1 < gtag) (hri : idsL rest = []) (hrt : tagsL rest = []) (hnt : noTups rest = true)
    (hP : ∀ l, P l → idsL l = []) (hPr : ∀ l τ, P l → P (renL (fun _ _ => none) τ l))
    (h : Tells (Rets fun fr H1 => ∃ o g ob l, P l ∧ resultsV C fr H1 fn.results.toList = some (.sl o 0 n g :: rest) ∧ H1[o]? = some (some ob) ∧ ob.p = .pc l ∧ ob.g = g ∧ ob.row = true ∧ ob.ids = false ∧ ob.tg = 1) C T f 0 c (numbered 0 (coerce C xs (paramsOf C f))) []) :
    ∃ ob' l, P l ∧ Rw (.pc l) 0 ob' ∧ Ev1 C f args H (resultV (.sl H.length 0 n 0 :: rest), upd H bo none ++ [some ob']) := by
  obtain ⟨⟨ex, fr, H1⟩, ⟨he, o, g, ob, l, hPl, hr, ho, hp, hg, hrow, hids, htg⟩, hrun⟩ := h
  simp only at he hr ho
  subst he
  have hre : ren (fun _ _ => none) (backT (lents ++ [⟨[], tagsObjs (([] : List Nat).map (obAt H))⟩])) ob.p = .pc (renL (fun _ _ => none) (backT (lents ++ [⟨[], tagsObjs (([] : List Nat).map (obAt H))⟩])) l) := by rw [hp]; simp [ren]
  refine ⟨{ ob with p := ren (fun _ _ => none) (backT (lents ++ [⟨[], tagsObjs (([] : List Nat).map (obAt H))⟩])) ob.p, g := 0, tg := 0 }, renL (fun _ _ => none) (backT (lents ++ [⟨[], tagsObjs (([] : List Nat).map (obAt H))⟩])) l, hPr _ _ hPl, ⟨hre, rfl, hrow, hids, rfl⟩, ?_⟩
  refine Ev1.of (out := ⟨.ret, fr, H1⟩) (l := .sl o 0 n g :: rest) hT hF hb hl ?_ ?_ (.inr rfl) hr ?_
  · rw [hi, reach_none]
    simp only [Bool.and_eq_true, decide_eq_true_eq]
    exact ⟨List.all_eq_true.2 fun x _ => disjoint_nil x.objs, hn⟩
  · rw [hi, reach_none, renL_flat xs hi (fun _ _ => rfl)]
    exact hrun
  · rw [hi, reach_none]
    have h0' : (lents ++ [⟨[], tagsObjs (([] : List Nat).map (obAt H))⟩])[0]? = some ⟨[bo], [0]⟩ := by
      cases lents with
      | nil => cases h0
      | cons x r => exact h0
    rw [wrap_bor (o := o) (g := g) (ob := ob) (by rw [ids_result (l := .sl o 0 n g :: rest) hnt]; simp [idsL, ids, hri]) (by rw [tags_result (l := .sl o 0 n g :: rest) hnt]; simp [tagsL, tags, hrt]) (by simp [live, ho, hg]) hids (by rw [hp]; exact hP l hPl) (by rw [hp]; simp) htg h0']
    rw [ren_result (w := .sl H.length 0 n 0) (by simp [ren]) (renL_flat rest hri (fun t ht => rfl)) (by exact hnt) (by exact hnt)]

end

end Go.AM
