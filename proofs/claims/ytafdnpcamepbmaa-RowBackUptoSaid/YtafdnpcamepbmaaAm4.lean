/- The abstract machine, part 4: a deterministic evaluator for the program's code and the proof that what it tells is so. Conditions: none beyond the theorems' own. -/
import Derived.Test.YtafdnpcamepbmaaAm3
set_option linter.unusedSimpArgs false
set_option linter.unusedVariables false
/- Rows of structs: appended to, lent, told anew. -/
namespace Go.AM

section
variable {C : Ctx} {f : Nat} {H : Heap} {T : Cf}

/-- rows appended to a slice that a variable holds -/
theorem app_rows {T e es : Nat} (hT : und C T = .slice e) (hs : sizeT C e = es) (hes : es ≠ 0) (hb : bytesT C e ≤ 4096) (hz : zeroOk C e = true) {o g : Nat} {ob : Obj} {l m : List AV} {src : AV}
    (ho : H[o]? = some (some ob)) (h : Rw (.pr es l) g ob) (hsrc : srcV H src = some (.pr es m, 0)) (hn : l.length + m.length ≤ 100000000) :
    ∃ ob', Rw (.pr es (l ++ m)) (g + 1) ob' ∧ appendV C H T (.sl o 0 l.length g) src = some (.sl o 0 (l.length + m.length) (g + 1), upd H o (some ob')) := by
  have hlive : live H o g = some ob := by simp [live, ho, h.g]
  have hroom : roomOk C e (l.length + m.length) = true := by
    unfold roomOk
    have : (l.length + m.length) * bytesT C e ≤ 100000000 * 4096 := Nat.mul_le_mul hn hb
    exact decide_eq_true ⟨by omega, by omega⟩
  refine ⟨{ ob with p := .pr es (l ++ m), g := g + 1, cap := (match ob.cap with | some c => if 0 + l.length + AM.plen (.pr es m) ≤ c then some (c - 0) else none | none => none), z := (if AM.plen ob.p = 0 then ob.z else 1), tg := 0 }, ⟨rfl, rfl, h.row, h.ids, rfl⟩, ?_⟩
  unfold appendV
  simp only [hT, hs, hz, hsrc, hlive, h.row, h.ids, h.p, h.tg]
  rw [if_neg (by simp [hes])]
  have hc : True ∧ True ∧ 0 + l.length = AM.plen (.pr es l) ∧ pesz (.pr es l) = es ∧ roomOk C e (l.length + AM.plen (.pr es m)) = true := ⟨trivial, trivial, by simp [AM.plen], rfl, by simpa [AM.plen] using hroom⟩
  rw [if_pos hc]
  simp only [psub, Nat.zero_add, Nat.le_refl, if_true, List.drop_zero, List.take_length, papp, joinTag, pesz]
  simp [AM.plen]
  rfl

/-- a call that tells a new slice of structs, and plain values behind it -/
theorem Ev1.newR (hT : Below C T) {args xs : List AV} {lents : List Lent} {fn : Func} {c : Code} {n es : Nat} {l rest : List AV}
    (hF : C.P.funcs[f]? = some fn) (hb : fn.body = some c) (hl : lendArgs C f H 0 args = some (xs, lents)) (hi : idsL xs = []) (hn : xs.length + 1 < gtag) (hri : idsL rest = []) (hrt : tagsL rest = []) (hnt : noTups rest = true) (hpi : idsL l = []) (hpt : tagsL l = [])
    (h : Tells (Rets fun fr H1 => ∃ o g ob, resultsV C fr H1 fn.results.toList = some (.sl o 0 n g :: rest) ∧ H1[o]? = some (some ob) ∧ Rw (.pr es l) g ob) C T f 0 c (numbered 0 (coerce C xs (paramsOf C f))) []) :
    ∃ ob', Rw (.pr es l) 0 ob' ∧ Ev1 C f args H (resultV (.sl H.length 0 n 0 :: rest), H ++ [some ob']) := by
  obtain ⟨⟨ex, fr, H1⟩, ⟨he, o, g, ob, hr, ho, hw⟩, hrun⟩ := h
  simp only at he hr ho
  subst he
  refine ⟨AM.fresh ob, ⟨hw.p, rfl, hw.row, hw.ids, rfl⟩, ?_⟩
  have := Ev1.freshQ (H := H) hT hF hb hl hi hn hrun (.inr rfl) hr (o := o) (g := g) (ob := ob) (by rw [ids_result (l := .sl o 0 n g :: rest) hnt]; simp [idsL, ids, hri]) (by rw [tags_result (l := .sl o 0 n g :: rest) hnt]; simp [tagsL, tags, hrt]) (by simp [live, ho, hw.g]) hw.ids (by rw [hw.p]; exact hpi) (by rw [hw.p]; exact hpt) (by simp [tagsOb, hw.ids, hw.p, hw.tg]) hw.tg
  rw [ren_result (w := .sl H.length 0 n 0) (by simp [ren]) (renL_flat rest hri (fun t ht => rfl)) (by exact hnt) (by exact hnt)] at this
  exact this

/-- lent, the value reads as these structs; none of them if it is nil -/
def RoRow (H : Heap) (a : AV) (es : Nat) (l : List AV) : Prop :=
  ∃ c p, (p = .pr es l ∨ (p = .pn ∧ l = [])) ∧ (c = 0 → l = []) ∧ ∀ t, ∃ x, lendV H t a = some (.ro c p t, x)

theorem RoRow.ro {c t es : Nat} {l : List AV} (hc : c = 0 → l = []) : RoRow H (.ro c (.pr es l) t) es l :=
  ⟨c, _, .inl rfl, hc, fun _ => ⟨⟨[], [t]⟩, rfl⟩⟩

theorem RoRow.whole {o g es : Nat} {ob : Obj} {l : List AV} (ho : H[o]? = some (some ob)) (h : Rw (.pr es l) g ob) : RoRow H (.sl o 0 l.length g) es l := by
  have hlive : live H o g = some ob := by simp [live, ho, h.g]
  refine ⟨if ob.z = 0 ∧ AM.plen ob.p = 0 then 0 else 2, .pr es l, .inl rfl, fun h0 => ?_, fun t => ⟨⟨[o], [ob.tg]⟩, ?_⟩⟩
  · split at h0
    · rename_i hz
      have hm : l.length = 0 := by have := hz.2; rw [h.p] at this; exact this
      exact List.eq_nil_of_length_eq_zero hm
    · cases h0
  · simp only [lendV, lend1, hlive, h.ids, h.p, psub]
    simp

theorem args_row {i es : Nat} {a : AV} {l : List AV} {r as : List AV} {xs : List Lent} (hrw : C.rw f i = false) (h : RoRow H a es l) (hr : lendArgs C f H (i + 1) r = some (as, xs)) :
    ∃ c p x, (p = .pr es l ∨ (p = .pn ∧ l = [])) ∧ (c = 0 → l = []) ∧ lendArgs C f H i (a :: r) = some (.ro c p (i + 1) :: as, x :: xs) := by
  obtain ⟨c, p, hp, hc, hl⟩ := h
  obtain ⟨x, hx⟩ := hl (i + 1)
  exact ⟨c, p, x, hp, hc, by simp only [lendArgs, hrw, hx, hr]⟩

/-- the elements of a whole row, as what is appended -/
theorem srcR {o g n es : Nat} {ob : Obj} {l : List AV} (ho : H[o]? = some (some ob)) (h : Rw (.pr es l) g ob) (hn : n = l.length) (hes : es ≠ 0) : srcV H (.sl o 0 n g) = some (.pr es l, 0) := by
  subst hn
  simp [srcV, live, ho, h.g, h.ids, h.p, psub, payB, ptag, h.tg, hes]

end

end Go.AM

/- The marks of a drawing region: only the pairs whose order is free are looked at. -/
namespace Go.AM

/-- the pairs whose order is free -/
def freePairs (b : Array Nat) (n : Nat) : List (Nat × Nat) :=
  (List.range n).flatMap fun j => (List.range j).filterMap fun i => if (b.getD j 0).testBit i then none else some (i, j)

/-- do the marks of a pair bear each other? -/
def bearP (ms : List Mark) (p : Nat × Nat) : Bool := match ms[p.1]?, ms[p.2]? with | some x, some y => bear x y | _, _ => false

theorem marksOk_of {b : Array Nat} {ms : List Mark} {ps : List (Nat × Nat)} (h : freePairs b ms.length = ps) (h2 : ps.all (bearP ms) = true) : marksOk b ms = true := by
  unfold marksOk
  rw [List.all_eq_true]
  intro j hj
  rw [List.all_eq_true]
  intro i hi
  cases hb : (b.getD j 0).testBit i with
  | true => rfl
  | false =>
    rw [Bool.false_or]
    subst h
    have := List.all_eq_true.1 h2 (i, j) (by
      unfold freePairs
      rw [List.mem_flatMap]
      exact ⟨j, hj, List.mem_filterMap.2 ⟨i, hi, by rw [hb]; rfl⟩⟩)
    exact this

end Go.AM

/- Calls of a closure over a variable that it changes: as AmHand's box, the variable last. -/
namespace Go.AM

section
variable {C : Ctx} {f : Nat} {H : Heap} {T : Cf}

theorem Ev1.boxL (hT : Below C T) {o g : Nat} {ob ob1 : Obj} {xs : List AV} {fn : Func} {c : Code} {out : Out} {l : List AV} {rest : Heap} {n t : Nat}
    (hF : C.P.funcs[f]? = some fn) (hb : fn.body = some c) (hrw : ∀ i, C.rw f i = false) (ho : H[o]? = some (some ob)) (hg : ob.g = g) (hi : ids ob.p = [])
    (hx : xs.all flatV = true) (hn : xs.length + 2 = n) (hng : n < gtag)
    (hj : joinTags (tagsOb ob) = some t)
    (he : Run C T f 1 c (numbered 0 (coerce C (xs ++ [.ptr 0 0 0 0]) (paramsOf C f))) [some { ob with p := rt n ob.p, g := 0, tg := n }] out)
    (hex : out.ex = .normal ∨ out.ex = .ret) (hr : resultsV C out.fr out.H fn.results.toList = some l)
    (hH : out.H = some ob1 :: rest) (hid1 : ob1.ids = true) (hi1 : ids ob1.p = []) (hv : ids (resultV l) = [])
    (hu : ∀ k ∈ tags (resultV l) ++ tagsOb ob1, k = 0 ∨ k = n) (ht1 : ob1.tg = 0 ∨ ob1.tg = n) :
    Ev1 C f (xs ++ [.ptr o 0 0 g]) H (ren (fun _ _ => none) (bk n t) (resultV l), upd H o (some { ob1 with p := ren (fun _ _ => none) (bk n t) ob1.p, g := g + (if ob1.g = 0 then 0 else 1), tg := bk n t ob1.tg })) := by
  have hlive : live H o g = some ob := by simp [live, ho, hg]
  have hat : obAt H o = some ob := by simp [obAt, ho]
  have hxi := flats_ids hx
  have hl' := lendArgs_flats (H := H) hrw (o := o) (g := g) (i := 0) hx
  have hids : idsL (xs ++ [.ptr o 0 0 g]) = [o] := by rw [idsL_app, hxi.1]; rfl
  have hre : reach H reachFuel (idsL (xs ++ [.ptr o 0 0 g])) [] = [o] := by
    rw [hids]
    exact reach_box ho hi
  have hin : intoN H [o] o g = some (0, 0) := by simp [intoN, hlive, idxOf]
  have hn0 : 0 < n := by omega
  refine Ev1.of (out := out) (l := l) hT hF hb hl' ?_ ?_ hex hr ?_
  · rw [hre]
    simp only [Bool.and_eq_true, decide_eq_true_eq, List.length_append, List.length_cons, List.length_nil]
    refine ⟨List.all_eq_true.2 fun x hx => ?_, by omega⟩
    rw [List.mem_replicate] at hx
    rw [hx.2]; rfl
  · rw [hre]
    have e1 : renL (intoN H [o]) (fun t => t) (xs ++ [.ptr o 0 0 g]) = xs ++ [.ptr 0 0 0 0] := by
      rw [renL_app, renL_flat xs hxi.1 (fun _ _ => rfl)]
      simp [renL, ren, hin]
    have e2 : ([o].map fun o' => (obAt H o').map (renObj (intoN H [o]) (fun _ => (xs ++ [AV.ptr o 0 0 g]).length + 1) 0)) = [some { ob with p := rt n ob.p, g := 0, tg := n }] := by
      simp only [List.map_cons, List.map_nil, hat, Option.map_some, renObj, List.length_append, List.length_cons, List.length_nil]
      rw [show xs.length + (0 + 1) + 1 = n by omega]
      have e : ren (intoN H [o]) (fun _ => n) ob.p = rt n ob.p := ren_same ob.p (fun o g h => by rw [hi] at h; cases h) (fun _ _ => rfl)
      rw [e]
    rw [e1, e2]
    exact he
  · rw [hre]
    unfold wrap
    have h0 : out.H[0]? = some (some ob1) := by rw [hH]; rfl
    have hat1 : obAt out.H 0 = some ob1 := by simp [obAt, h0]
    have hre1 : reach out.H reachFuel (List.range [o].length ++ ids (resultV l)) [] = [0] := by
      rw [hv]
      exact reach_box h0 hi1
    have hbt : ∀ k, k = 0 ∨ k = n → backTag (List.replicate (xs.length + 1) ⟨[], []⟩ ++ [⟨[], tagsObjs ([o].map (obAt H))⟩]) k = some (bk n t k) := by
      rintro k (rfl | rfl)
      · unfold backTag bk
        rw [if_pos rfl, if_neg (by omega)]
      · unfold backTag bk
        rw [if_neg (by omega), if_pos rfl]
        rw [List.getElem?_append_right (by simp; omega)]
        simp [show k - 1 - (xs.length + 1) = 0 by omega, tagsObjs, hat, hj]
    have hgo : ∀ k, k = 0 ∨ k = n → goneOf (List.replicate (xs.length + 1) ⟨[], []⟩ ++ [⟨[], tagsObjs ([o].map (obAt H))⟩]) k = [] := by
      rintro k (rfl | rfl)
      · rfl
      · unfold goneOf
        rw [if_neg (by omega)]
        rw [List.getElem?_append_right (by simp; omega)]
        simp [show k - 1 - (xs.length + 1) = 0 by omega]
    generalize (List.replicate (xs.length + 1) ⟨[], []⟩ ++ [⟨[], tagsObjs ([o].map (obAt H))⟩] : List Lent) = L at *
    have hbT : ∀ k, k = 0 ∨ k = n → backT L k = bk n t k := fun k hk => by unfold backT; rw [hbt k hk]; rfl
    simp only [hre1]
    rw [show ([0].filter fun o' => decide ([o].length ≤ o')) = [] from rfl]
    have hus : (tags (resultV l) ++ tagsObjs ((List.range [o].length).map (obAt out.H)) ++ tagsObjs (([] : List Nat).map (obAt out.H))) = tags (resultV l) ++ tagsOb ob1 := by
      simp [tagsObjs, hat1, List.range_succ]
    rw [hus]
    rw [if_pos (List.all_eq_true.2 fun k hk => by rw [hbt k (hu k hk)]; rfl)]
    rw [show (tags (resultV l) ++ tagsOb ob1).flatMap (goneOf L) = [] from List.flatMap_eq_nil_iff.2 fun k hk => hgo k (hu k hk)]
    simp only [strike, List.map_nil, List.append_nil, putBack, hat1, Option.map_some, Option.some.injEq, Prod.mk.injEq]
    refine ⟨ren_same _ (fun o g h => by rw [hv] at h; cases h) (fun k hk => hbT k (hu k (List.mem_append_left _ hk))), ?_⟩
    have hgb : genBack H [o] 0 ob1.g = g + (if ob1.g = 0 then 0 else 1) := by simp [genBack, hat, hg]
    rw [hgb]
    congr 2
    simp only [renObj]
    rw [hbT _ ht1]
    congr 1
    refine ren_same _ (fun o g h => by rw [hi1] at h; cases h) fun k hk => ?_
    unfold tagsOb at hu
    rw [if_pos hid1] at hu
    exact hbT k (hu k (List.mem_append_right _ hk))

end

end Go.AM

/- Calls of a closure over a variable that it changes, that tells a new slice: as AmHand's boxNew, the variable last. -/
namespace Go.AM

section
variable {C : Ctx} {f : Nat} {H : Heap} {T : Cf}

theorem Ev1.boxLNew (hT : Below C T) {o g : Nat} {ob ob1 : Obj} {xs : List AV} {fn : Func} {c : Code} {out : Out} {l : List AV} {rest : Heap} {n t o1 g1 : Nat} {ob2 : Obj}
    (hF : C.P.funcs[f]? = some fn) (hb : fn.body = some c) (hrw : ∀ i, C.rw f i = false) (ho : H[o]? = some (some ob)) (hg : ob.g = g) (hi : ids ob.p = [])
    (hx : xs.all flatV = true) (hn : xs.length + 2 = n) (hng : n < gtag)
    (hj : joinTags (tagsOb ob) = some t)
    (he : Run C T f 1 c (numbered 0 (coerce C (xs ++ [.ptr 0 0 0 0]) (paramsOf C f))) [some { ob with p := rt n ob.p, g := 0, tg := n }] out)
    (hex : out.ex = .normal ∨ out.ex = .ret) (hr : resultsV C out.fr out.H fn.results.toList = some l)
    (hH : out.H = some ob1 :: rest) (hid1 : ob1.ids = true) (hi1 : ids ob1.p = []) (hv : ids (resultV l) = [o1]) (ho1 : live out.H o1 g1 = some ob2) (hne : o1 ≠ 0) (hid2 : ob2.ids = false) (hp2 : plainP ob2.p = true) (htg2 : ob2.tg = 0)
    (hu : ∀ k ∈ tags (resultV l) ++ tagsOb ob1, k = 0 ∨ k = n) (ht1 : ob1.tg = 0 ∨ ob1.tg = n) :
    Ev1 C f (xs ++ [.ptr o 0 0 g]) H (ren (fun o' g' => if o' = o1 ∧ g' = g1 then some (H.length, 0) else none) (bk n t) (resultV l), upd H o (some { ob1 with p := ren (fun _ _ => none) (bk n t) ob1.p, g := g + (if ob1.g = 0 then 0 else 1), tg := bk n t ob1.tg }) ++ [some (AM.fresh ob2)]) := by
  have hlive : live H o g = some ob := by simp [live, ho, hg]
  have hat : obAt H o = some ob := by simp [obAt, ho]
  have hxi := flats_ids hx
  have hl' := lendArgs_flats (H := H) hrw (o := o) (g := g) (i := 0) hx
  have hids : idsL (xs ++ [.ptr o 0 0 g]) = [o] := by rw [idsL_app, hxi.1]; rfl
  have hre : reach H reachFuel (idsL (xs ++ [.ptr o 0 0 g])) [] = [o] := by
    rw [hids]
    exact reach_box ho hi
  have hin : intoN H [o] o g = some (0, 0) := by simp [intoN, hlive, idxOf]
  have hn0 : 0 < n := by omega
  refine Ev1.of (out := out) (l := l) hT hF hb hl' ?_ ?_ hex hr ?_
  · rw [hre]
    simp only [Bool.and_eq_true, decide_eq_true_eq, List.length_append, List.length_cons, List.length_nil]
    refine ⟨List.all_eq_true.2 fun x hx => ?_, by omega⟩
    rw [List.mem_replicate] at hx
    rw [hx.2]; rfl
  · rw [hre]
    have e1 : renL (intoN H [o]) (fun t => t) (xs ++ [.ptr o 0 0 g]) = xs ++ [.ptr 0 0 0 0] := by
      rw [renL_app, renL_flat xs hxi.1 (fun _ _ => rfl)]
      simp [renL, ren, hin]
    have e2 : ([o].map fun o' => (obAt H o').map (renObj (intoN H [o]) (fun _ => (xs ++ [AV.ptr o 0 0 g]).length + 1) 0)) = [some { ob with p := rt n ob.p, g := 0, tg := n }] := by
      simp only [List.map_cons, List.map_nil, hat, Option.map_some, renObj, List.length_append, List.length_cons, List.length_nil]
      rw [show xs.length + (0 + 1) + 1 = n by omega]
      have e : ren (intoN H [o]) (fun _ => n) ob.p = rt n ob.p := ren_same ob.p (fun o g h => by rw [hi] at h; cases h) (fun _ _ => rfl)
      rw [e]
    rw [e1, e2]
    exact he
  · rw [hre]
    unfold wrap
    have h0 : out.H[0]? = some (some ob1) := by rw [hH]; rfl
    have hat1 : obAt out.H 0 = some ob1 := by simp [obAt, h0]
    obtain ⟨h1, h2⟩ := live_iff.1 ho1
    have hre1 : reach out.H reachFuel (List.range [o].length ++ ids (resultV l)) [] = [0, o1] := by
      rw [hv]
      exact reach_box2 h0 hi1 h1 (plainP_ids hp2) hne
    have hat2 : obAt out.H o1 = some ob2 := by simp [obAt, h1]
    have hbt : ∀ k, k = 0 ∨ k = n → backTag (List.replicate (xs.length + 1) ⟨[], []⟩ ++ [⟨[], tagsObjs ([o].map (obAt H))⟩]) k = some (bk n t k) := by
      rintro k (rfl | rfl)
      · unfold backTag bk
        rw [if_pos rfl, if_neg (by omega)]
      · unfold backTag bk
        rw [if_neg (by omega), if_pos rfl]
        rw [List.getElem?_append_right (by simp; omega)]
        simp [show k - 1 - (xs.length + 1) = 0 by omega, tagsObjs, hat, hj]
    have hgo : ∀ k, k = 0 ∨ k = n → goneOf (List.replicate (xs.length + 1) ⟨[], []⟩ ++ [⟨[], tagsObjs ([o].map (obAt H))⟩]) k = [] := by
      rintro k (rfl | rfl)
      · rfl
      · unfold goneOf
        rw [if_neg (by omega)]
        rw [List.getElem?_append_right (by simp; omega)]
        simp [show k - 1 - (xs.length + 1) = 0 by omega]
    generalize (List.replicate (xs.length + 1) ⟨[], []⟩ ++ [⟨[], tagsObjs ([o].map (obAt H))⟩] : List Lent) = L at *
    have hbT : ∀ k, k = 0 ∨ k = n → backT L k = bk n t k := fun k hk => by unfold backT; rw [hbt k hk]; rfl
    simp only [hre1]
    rw [show ([0, o1].filter fun o' => decide ([o].length ≤ o')) = [o1] by
      simp only [List.length_cons, List.length_nil]
      rw [List.filter_cons_of_neg (by simp), List.filter_cons_of_pos (by simp; omega), List.filter_nil]]
    have hus : (tags (resultV l) ++ tagsObjs ((List.range [o].length).map (obAt out.H)) ++ tagsObjs ([o1].map (obAt out.H))) = tags (resultV l) ++ tagsOb ob1 ++ [0] := by
      have : tagsOb ob2 = [0] := by unfold tagsOb; rw [hid2, htg2]; cases hq : ob2.p <;> simp [hq, plainP] at hp2 <;> simp
      simp [tagsObjs, hat1, hat2, this, List.range_succ]
    rw [hus]
    have hu2 : ∀ k ∈ tags (resultV l) ++ tagsOb ob1 ++ [0], k = 0 ∨ k = n := fun k hk => by
      rcases List.mem_append.1 hk with hk | hk
      · exact hu k hk
      · simp at hk; exact .inl hk
    rw [if_pos (List.all_eq_true.2 fun k hk => by rw [hbt k (hu2 k hk)]; rfl)]
    rw [show (tags (resultV l) ++ tagsOb ob1 ++ ([0] : List Nat)).flatMap (goneOf L) = [] from List.flatMap_eq_nil_iff.2 fun k hk => hgo k (hu2 k hk)]
    simp only [strike, List.map_cons, List.map_nil, putBack, hat1, hat2, Option.map_some, Option.some.injEq, Prod.mk.injEq]
    have hrho : ∀ o' g', o' ∈ [o1] → backN H [o] [o1] out.H o' g' = if o' = o1 ∧ g' = g1 then some (H.length, 0) else none := by
      intro o' g' hm
      simp only [List.mem_singleton] at hm
      subst hm
      unfold backN
      by_cases hgg : g' = g1
      · subst hgg
        rw [ho1]
        have : ¬ (o' < [o].length) := by simp; omega
        simp only [if_neg this]
        simp [idxOf]
      · have : live out.H o' g' = none := by
          simp only [live, h1]
          rw [if_neg (fun e => hgg (e.symm.trans h2))]
        rw [this]
        simp [hgg]
    refine ⟨ren_same _ (fun o' g' h => hrho o' g' (by rw [← hv]; exact h)) (fun k hk => hbT k (hu k (List.mem_append_left _ hk))), ?_⟩
    have hgb : genBack H [o] 0 ob1.g = g + (if ob1.g = 0 then 0 else 1) := by simp [genBack, hat, hg]
    rw [hgb]
    have e2 : renObj (backN H [o] [o1] out.H) (backT L) 0 ob2 = AM.fresh ob2 := by
      simp only [renObj, plainP_ren hp2, AM.fresh, htg2, hbT 0 (.inl rfl)]
      unfold bk; rw [if_neg (by omega)]
    rw [e2]
    congr 3
    simp only [renObj]
    rw [hbT _ ht1]
    congr 1
    refine ren_same _ (fun o g h => by rw [hi1] at h; cases h) fun k hk => ?_
    unfold tagsOb at hu
    rw [if_pos hid1] at hu
    exact hbT k (hu k (List.mem_append_right _ hk))

end

end Go.AM
