/- The abstract machine, part 4: a deterministic evaluator for the program's code and the proof that what it tells is so. Conditions: none beyond the theorems' own. -/
import Derived.Test.YtconnpileacfeaaAm3
set_option linter.unusedSimpArgs false
set_option linter.unusedVariables false
/- Bytes appended to a slice that begins later; a call that tells a new object. -/
namespace Go.AM

section
variable {C : Ctx} {f : Nat} {H : Heap} {T : Cf}

/-- bytes appended to a slice's rest -/
theorem app_off {T e : Nat} (hT : und C T = .slice e) (he : und C e = .int .u8) (hs : sizeT C e = 1) (hb : bytesT C e = 1) (hz : zeroOk C e = true) {o g t off : Nat} {ob : Obj} {l m : List UInt8} {src : AV}
    (ho : H[o]? = some (some ob)) (h : RwT (.pb l) g t ob) (hoff : off ≤ l.length) (hsrc : srcV H src = some (.pb m, 0) ∨ (srcV H src = some (.pn, 0) ∧ m = [])) (hn : l.length + m.length ≤ 100000000) :
    ∃ ob', RwT (.pb (l.drop off ++ m)) (g + 1) t ob' ∧ appendV C H T (.sl o off (l.drop off).length g) src = some (.sl o 0 ((l.drop off).length + m.length) (g + 1), upd H o (some ob')) := by
  have hlive : live H o g = some ob := by simp [live, ho, h.g]
  have hroom : roomOk C e ((l.drop off).length + m.length) = true := by simp [roomOk, hb]; omega
  obtain ⟨p, hp1, hp2⟩ : ∃ p, srcV H src = some (p, 0) ∧ PB p m := by
    rcases hsrc with h1 | ⟨h1, h2⟩
    · exact ⟨_, h1, .inl rfl⟩
    · exact ⟨_, h1, .inr ⟨rfl, h2⟩⟩
  have hpl := hp2.plen
  have hpa : papp (.pb (l.drop off)) p = some (.pb (l.drop off ++ m)) := by
    rcases hp2 with rfl | ⟨rfl, rfl⟩
    · rfl
    · simp [papp]
  have hj : joinTag t 0 = some t := by
    unfold joinTag
    by_cases h0 : t = 0
    · rw [if_pos h0, h0]
    · rw [if_neg h0, if_pos (.inl rfl)]
  have hps : psub (.pb l) off (l.drop off).length = some (.pb (l.drop off)) := by
    simp only [psub, List.length_drop]
    rw [if_pos (by omega)]
    congr 2
    rw [List.take_of_length_le (by simp)]
  refine ⟨{ ob with p := .pb (l.drop off ++ m), g := g + 1, cap := (match ob.cap with | some c => if off + (l.drop off).length + AM.plen p ≤ c then some (c - off) else none | none => none), z := (if AM.plen ob.p = 0 then ob.z else 1), tg := t }, ⟨rfl, rfl, h.row, h.ids, rfl⟩, ?_⟩
  unfold appendV
  simp only [hT, hs, hz, hp1, hlive, h.row, h.ids, h.p, h.tg]
  simp only [show ¬ ((1 : Nat) = 0 ∨ true = false) by simp, if_false]
  have hc : True ∧ True ∧ off + (l.drop off).length = AM.plen (.pb l) ∧ pesz (.pb l) = 1 ∧ roomOk C e ((l.drop off).length + AM.plen p) = true := ⟨trivial, trivial, by simp [AM.plen]; omega, rfl, by rw [hpl]; exact hroom⟩
  rw [if_pos hc]
  simp only [hps, hpa, hj, pesz]
  simp [hpl]
  rfl

/-- a call that tells a pointer to a new object -/
theorem Ev1.newP (hT : Below C T) {args xs : List AV} {lents : List Lent} {fn : Func} {c : Code} {rest : List AV} {ob : Obj} {n : Nat}
    (hF : C.P.funcs[f]? = some fn) (hb : fn.body = some c) (hl : lendArgs C f H 0 args = some (xs, lents)) (hi : idsL xs = []) (hn : xs.length + 1 = n) (hng : n < gtag) (hri : idsL rest = []) (hrt : tagsL rest = []) (hnt : noTups rest = true)
    (hip : ids ob.p = []) (htp : ∀ k ∈ tags ob.p, k = 0) (htg : ob.tg = 0) (hg : ob.g = 0) (hpm : ∀ l, ob.p ≠ .pm l)
    (h : Tells (Rets fun fr H1 => ∃ o, resultsV C fr H1 fn.results.toList = some (.ptr o 0 0 0 :: rest) ∧ H1[o]? = some (some ob)) C T f 0 c (numbered 0 (coerce C xs (paramsOf C f))) []) :
    Ev1 C f args H (resultV (.ptr H.length 0 0 0 :: rest), H ++ [some ob]) := by
  obtain ⟨⟨ex, fr, H1⟩, ⟨he, o, hr, ho⟩, hrun⟩ := h
  simp only at he hr ho
  subst he
  have hre : reach H reachFuel (idsL xs) [] = [] := by
    rw [hi, reach_none]
  refine Ev1.of (out := ⟨.ret, fr, H1⟩) (l := .ptr o 0 0 0 :: rest) hT hF hb hl ?_ ?_ (.inr rfl) hr ?_
  · rw [hre]
    simp only [Bool.and_eq_true, decide_eq_true_eq]
    refine ⟨List.all_eq_true.2 fun x _ => ?_, by omega⟩
    exact disjoint_nil x.objs
  · rw [hre]
    rw [renL_flat xs hi (fun _ _ => rfl)]
    exact hrun
  · rw [hre]
    unfold wrap
    have hv : ids (resultV (.ptr o 0 0 0 :: rest)) = [o] := by rw [ids_result (l := .ptr o 0 0 0 :: rest) hnt]; simp [idsL, ids, hri]
    have hvt : tags (resultV (.ptr o 0 0 0 :: rest)) = [] := by rw [tags_result (l := .ptr o 0 0 0 :: rest) hnt]; simp [tagsL, tags, hrt]
    have hK : reach H1 reachFuel (List.range ([] : List Nat).length ++ ids (resultV (.ptr o 0 0 0 :: rest))) [] = [o] := by
      rw [hv]
      exact reach_box ho hip
    simp only [hK]
    rw [show ([o].filter fun o' => decide (([] : List Nat).length ≤ o')) = [o] by simp]
    have hat : obAt H1 o = some ob := by simp [obAt, ho]
    have hlv : live H1 o 0 = some ob := by simp [live, ho, hg]
    have hus : ∀ x ∈ tags (resultV (.ptr o 0 0 0 :: rest)) ++ tagsObjs ((List.range ([] : List Nat).length).map (obAt H1)) ++ tagsObjs ([o].map (obAt H1)), x = 0 := by
      intro x hx
      rw [hvt] at hx
      simp only [List.length_nil, List.range_zero, List.map_nil, tagsObjs, List.nil_append, List.map_cons, hat, List.append_nil] at hx
      unfold tagsOb at hx
      split at hx
      · exact htp x hx
      · rcases List.mem_cons.1 hx with rfl | hx
        · exact htg
        · split at hx
          · rename_i l hl; exact absurd hl (hpm l)
          · simp at hx
    have hb0 : ∀ L : List Lent, backTag L 0 = some 0 := fun L => by unfold backTag; rw [if_pos rfl]
    have hT0 : ∀ L : List Lent, backT L 0 = 0 := fun L => by unfold backT; rw [hb0]; rfl
    rw [if_pos (List.all_eq_true.2 fun k hk => by rw [hus k hk, hb0]; rfl)]
    rw [List.flatMap_eq_nil_iff.2 fun k hk => by rw [hus k hk]; rfl]
    simp only [strike, putBack, List.map_cons, List.map_nil, hat, Option.map_some, Option.some.injEq, Prod.mk.injEq]
    have hrho : backN H [] [o] H1 o 0 = some (H.length, 0) := by
      unfold backN
      rw [hlv]
      simp [idxOf]
    refine ⟨?_, ?_⟩
    · rw [ren_result (w := .ptr H.length 0 0 0) (by simp [ren, hrho]) (renL_flat rest hri (fun t ht => by rw [hrt] at ht; cases ht)) (by exact hnt) (by exact hnt)]
    · congr 2
      unfold renObj
      rw [htg, hT0, ren_flat ob.p hip (fun t ht => by rw [htp t ht]; exact hT0 _)]
      cases ob
      simp only at htg hg
      subst htg hg
      rfl

end

end Go.AM

/- A new row that a call tells, whose cells hold bytes of their own. -/
namespace Go.AM
set_option linter.unusedSimpArgs false
open Go

section
variable {C : Ctx} {H : Heap} {f : Nat} {T : Cf}

theorem wrap_newZ {lents : List Lent} {v : AV} {H1 : Heap} {o g : Nat} {ob : Obj} (hi : ids v = [o]) (ht : tags v = []) (hl : live H1 o g = some ob) (hob : ob.ids = false) (hp : ids ob.p = []) (hp2 : ∀ k ∈ tags ob.p, k = 0) (hto : tagsOb ob = [0]) (htg : ob.tg = 0) :
    wrap H [] lents v H1 = some (ren (fun o' g' => if o' = o ∧ g' = g then some (H.length, 0) else none) (fun t => t) v, H ++ [some (fresh ob)]) := by
  obtain ⟨h1, h2⟩ := live_iff.1 hl
  unfold wrap
  have hat : obAt H1 o = some ob := by simp [obAt, h1]
  have hρ : ren (backN H [] [o] H1) (backT lents) v = ren (fun o' g' => if o' = o ∧ g' = g then some (H.length, 0) else none) (fun t => t) v := by
    have key : ∀ o' g', o' ∈ ids v → backN H [] [o] H1 o' g' = if o' = o ∧ g' = g then some (H.length, 0) else none := by
      intro o' g' hm
      rw [hi] at hm
      simp only [List.mem_singleton] at hm
      subst hm
      unfold backN
      by_cases hg : g' = g
      · subst hg
        rw [hl]
        simp [idxOf]
      · have : live H1 o' g' = none := by
          simp only [live, h1]
          rw [if_neg (fun e => hg (e.symm.trans h2))]
        rw [this]
        simp [hg]
    exact ren_same v (fun o' g' hm => key o' g' hm) (by simp [ht])
  simp only [List.length_nil, List.range_zero, List.nil_append, hi, reach_one h1 hob, ht, tagsObjs, List.append_nil, List.map_nil, hat, hto, List.map_cons, Nat.zero_le, decide_true, List.filter_cons_of_pos, List.filter_nil, strike, putBack]
  have h0 : backTag lents 0 = some 0 := rfl
  simp only [List.all_cons, List.all_nil, h0, Option.isSome_some, Bool.and_true, if_true, List.flatMap_cons, List.flatMap_nil, goneOf, List.append_nil, strike, Option.map_some, Option.some.injEq, Prod.mk.injEq]
  refine ⟨hρ, ?_⟩
  have hr : ren (backN H [] [o] H1) (backT lents) ob.p = ob.p := ren_flat ob.p hp (fun t h => by rw [hp2 t h]; rfl)
  simp only [renObj, hr, AM.fresh, htg]
  rfl

theorem Ev1.freshZ (hT : Below C T) {args : List AV} {fn : Func} {c : Code} {as : List AV} {lents : List Lent} {out : Out} {l : List AV} {o g : Nat} {ob : Obj}
    (hF : C.P.funcs[f]? = some fn) (hb : fn.body = some c) (hl : lendArgs C f H 0 args = some (as, lents)) (hi : idsL as = []) (hn : as.length + 1 < gtag)
    (he : Run C T f 0 c (numbered 0 (coerce C as (paramsOf C f))) [] out) (hex : out.ex = .normal ∨ out.ex = .ret) (hr : resultsV C out.fr out.H fn.results.toList = some l)
    (hv : ids (resultV l) = [o]) (ht : tags (resultV l) = []) (ho : live out.H o g = some ob) (hob : ob.ids = false) (hp : ids ob.p = []) (hp2 : ∀ k ∈ tags ob.p, k = 0) (hto : tagsOb ob = [0]) (htg : ob.tg = 0) :
    Ev1 C f args H (ren (fun o' g' => if o' = o ∧ g' = g then some (H.length, 0) else none) (fun t => t) (resultV l), H ++ [some (AM.fresh ob)]) := by
  refine Ev1.of hT hF hb hl ?_ ?_ hex hr ?_
  · rw [hi, reach_none]
    simp only [Bool.and_eq_true, decide_eq_true_eq]
    exact ⟨List.all_eq_true.2 fun x _ => disjoint_nil x.objs, hn⟩
  · rw [hi, reach_none, renL_flat as hi (fun _ _ => rfl)]
    exact he
  · rw [hi, reach_none]
    exact wrap_newZ hv ht ho hob hp hp2 hto htg

theorem Ev1.newZ (hT : Below C T) {args xs : List AV} {lents : List Lent} {fn : Func} {c : Code} {n es : Nat} {l rest : List AV}
    (hF : C.P.funcs[f]? = some fn) (hb : fn.body = some c) (hl : lendArgs C f H 0 args = some (xs, lents)) (hi : idsL xs = []) (hn : xs.length + 1 < gtag) (hri : idsL rest = []) (hrt : tagsL rest = []) (hnt : noTups rest = true) (hpi : idsL l = []) (hpt : ∀ k ∈ tagsL l, k = 0)
    (h : Tells (Rets fun fr H1 => ∃ o g ob, resultsV C fr H1 fn.results.toList = some (.sl o 0 n g :: rest) ∧ H1[o]? = some (some ob) ∧ Rw (.pr es l) g ob) C T f 0 c (numbered 0 (coerce C xs (paramsOf C f))) []) :
    ∃ ob', Rw (.pr es l) 0 ob' ∧ Ev1 C f args H (resultV (.sl H.length 0 n 0 :: rest), H ++ [some ob']) := by
  obtain ⟨⟨ex, fr, H1⟩, ⟨he, o, g, ob, hr, ho, hw⟩, hrun⟩ := h
  simp only at he hr ho
  subst he
  refine ⟨AM.fresh ob, ⟨hw.p, rfl, hw.row, hw.ids, rfl⟩, ?_⟩
  have := Ev1.freshZ (H := H) hT hF hb hl hi hn hrun (.inr rfl) hr (o := o) (g := g) (ob := ob) (by rw [ids_result (l := .sl o 0 n g :: rest) hnt]; simp [idsL, ids, hri]) (by rw [tags_result (l := .sl o 0 n g :: rest) hnt]; simp [tagsL, tags, hrt]) (by simp [live, ho, hw.g]) hw.ids (by rw [hw.p]; exact hpi) (by rw [hw.p]; exact hpt) (by simp [tagsOb, hw.ids, hw.p, hw.tg]) hw.tg
  rw [ren_result (w := .sl H.length 0 n 0) (by simp [ren]) (renL_flat rest hri (fun t ht => rfl)) (by exact hnt) (by exact hnt)] at this
  exact this

end

end Go.AM
