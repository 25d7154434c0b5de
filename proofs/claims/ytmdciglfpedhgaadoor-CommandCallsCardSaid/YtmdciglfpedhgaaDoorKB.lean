/- Walks: what Read tells; SameBytes; WithStmt. -/
import Derived.Test.YtmdciglfpedhgaaDoorKA
namespace Go.Proofs.YtmdciglfpedhgaaDoor
open Go.AM
set_option linter.unusedSimpArgs false
set_option linter.unusedVariables false

/-- a call that tells plain values, the nil slice among them -/
theorem Ev1.toldZ {C : Ctx} {f : Nat} {H : AM.Heap} {T : Cf} (hT : Below C T) {args xs : List AV} {lents : List Lent} {fn : Func} {c : Code} {l : List AV}
    (hF : C.P.funcs[f]? = some fn) (hb : fn.body = some c) (hl : lendArgs C f H 0 args = some (xs, lents)) (hi : idsL xs = []) (hn : xs.length + 1 < gtag) (hri : idsL l = []) (hrt : ∀ k ∈ tagsL l, k = 0) (hnt : noTups l = true)
    (h : Tells (Rets fun fr H1 => resultsV C fr H1 fn.results.toList = some l) C T f 0 c (numbered 0 (coerce C xs (paramsOf C f))) []) : Ev1 C f args H (resultV l, H) := by
  obtain ⟨⟨ex, fr, H1⟩, ⟨he, hr⟩, hrun⟩ := h
  simp only at he hr
  subst he
  have hv : ids (resultV l) = [] := by rw [ids_result hnt]; exact hri
  have ht : ∀ k ∈ tags (resultV l), k = 0 := by rw [tags_result hnt]; exact hrt
  refine Ev1.of (out := ⟨.ret, fr, H1⟩) hT hF hb hl ?_ ?_ (.inr rfl) hr ?_
  · rw [hi, reach_none]
    simp only [Bool.and_eq_true, decide_eq_true_eq]
    exact ⟨List.all_eq_true.2 fun x _ => disjoint_nil x.objs, hn⟩
  · rw [hi, reach_none, renL_flat xs hi (fun _ _ => rfl)]
    exact hrun
  · rw [hi, reach_none]
    unfold wrap
    generalize (lents ++ [⟨[], tagsObjs (([] : List Nat).map (obAt H))⟩] : List Lent) = L
    have hbt : ∀ k ∈ tags (resultV l), backTag L k = some 0 := fun k hk => by rw [ht k hk]; rfl
    simp only [List.length_nil, List.range_zero, List.nil_append, hv, reach_none, List.filter_nil, List.map_nil, tagsObjs, List.append_nil]
    rw [if_pos (List.all_eq_true.2 fun k hk => by rw [hbt k hk]; rfl), List.flatMap_eq_nil_iff.2 (fun k hk => by rw [ht k hk]; rfl)]
    simp only [strike, putBack, Option.some.injEq, Prod.mk.injEq, and_true]
    exact ren_flat _ hv (fun k hk => by unfold backT; rw [hbt k hk, ht k hk]; rfl)

theorem datIs.byt {H : AM.Heap} {d : AV} {l : List UInt8} (h : datIs H d l) : Byt H d l := by
  rcases h with ⟨rfl, rfl⟩ | ⟨o, ob, rfl, ho, hw⟩
  · exact Byt.nil
  · exact Byt.whole ho hw

theorem datIs.app {H : AM.Heap} {d : AV} {l : List UInt8} (h : datIs H d l) (N : AM.Heap) : datIs (H ++ N) d l := by
  rcases h with h | ⟨o, ob, h1, ho, hw⟩
  · exact .inl h
  · have : o < H.length := (List.getElem?_eq_some_iff.1 ho).1
    exact .inr ⟨o, ob, h1, by rw [List.getElem?_append_left this]; exact ho, hw⟩

theorem datIs.upd {H : AM.Heap} {d : AV} {l : List UInt8} (h : datIs H d l) {o' : Nat} {bx : AM.Obj} (hb : H[o']? = some (some bx)) (hi : bx.ids = true) (y : Option AM.Obj) : datIs (AM.upd H o' y) d l := by
  rcases h with h | ⟨o, ob, h1, ho, hw⟩
  · exact .inl h
  · have hne : o' ≠ o := fun e => by
      rw [e, ho] at hb
      have := Option.some.inj (Option.some.inj hb)
      rw [← this, hw.ids] at hi
      cases hi
    exact .inr ⟨o, ob, h1, by rw [AM.upd, List.getElem?_set_ne hne]; exact ho, hw⟩

theorem datIs.scalar {H : AM.Heap} {d : AV} {l : List UInt8} (h : datIs H d l) : scalar d = true := by
  rcases h with ⟨rfl, rfl⟩ | ⟨o, ob, rfl, ho, hw⟩ <;> rfl

theorem read_ev {H : AM.Heap} {a : AV} {b : List UInt8} (h : Byt H a b) (hb : b.length ≤ 1000000) :
    ∃ d N, evT X 19 [a] H = some (.tup [.agg ((readR b).1.pay d), .int .i64 (readR b).2], H ++ N) ∧ datIs (H ++ N) d (readR b).1.dat := by
  obtain ⟨c, p, xl, hp, hc, hx⟩ := args_byt (C := X) (f := 19) (i := 0) rfl h (args_nil 1)
  obtain ⟨code, hcode, ⟨ex, fr, H1⟩, ⟨he, d, h2, h3, h0, hd⟩, hrun⟩ := read_code c b hc hb
  simp only at he h2 h3 h0 hd
  subst he
  have hrun' : Run X (evT X) 19 0 code (numbered 0 (coerce X [.ro c p 1] (paramsOf X 19))) [] ⟨.ret, fr, H1⟩ := by
    rw [par19, coB hp]
    exact hrun
  have hres : resultsV X fr H1 (Tryd.f19.results.toList) = some [.agg ((readR b).1.pay d), .int .i64 (readR b).2] := by
    show (match loadV X H1 26 (getF fr 2), some [getF fr 3] with | some v, some l => some (v :: l) | _, _ => none) = _
    rw [h2, load26 h0, h3]
  have hpi : idsL [AV.ro c p 1] = [] := by simp [idsL, ids, hp.ids]
  generalize readR b = r at *
  rcases hd with ⟨rfl, hdl⟩ | ⟨o, ob, rfl, ho, hw⟩
  · refine ⟨.ro 0 .pn 0, [], ?_, .inl ⟨rfl, hdl⟩⟩
    rw [List.append_nil]
    exact evT_eq (Ev1.toldZ (l := [.agg (r.1.pay (.ro 0 .pn 0)), .int .i64 r.2]) (evT_below X) Tryd.func19 hcode hx hpi (by simp [gtag]) rfl (by simp [Cm.pay, tagsL, tags]) rfl ⟨_, ⟨rfl, hres⟩, hrun'⟩)
  · refine ⟨.sl H.length 0 r.1.dat.length 0, [some (AM.fresh ob)], ?_, .inr ⟨H.length, AM.fresh ob, rfl, by simp, ⟨hw.p, rfl, hw.row, hw.ids, rfl⟩⟩⟩
    have := Ev1.fresh (H := H) (l := [.agg (r.1.pay (.sl o 0 r.1.dat.length 0)), .int .i64 r.2]) (o := o) (g := 0) (ob := ob) (evT_below X) Tryd.func19 hcode hx hpi (by simp [gtag]) hrun' (.inr rfl) hres rfl rfl (by simp [live, ho, hw.g]) hw.ids (by rw [hw.p]; rfl) hw.tg
    refine (evT_eq this).trans ?_
    simp [resultV, noTups, ren, renL, Cm.pay]

set_option maxRecDepth 100000 in
theorem sameB_code (c c2 : Nat) (a b : List UInt8) : ∃ code, Tryd.f10.body = some code ∧
    Run X (evT X) 10 0 code [(0, .ro c (.pb a) 1), (1, .ro c2 (.pb b) 2)] [] ⟨.ret, [(4, .bool (a == b))], []⟩ := by
  refine ⟨_, rfl, 0, ?_⟩
  simp (maxSteps := 2000000) -implicitDefEqProofs [-getElem?_pos, List.getElem?_cons_zero, List.getElem?_cons_succ, exec, runOps, dstOk, wantedV, AM.step, evalT, evalO, evalArgs, evalParts, getF, putF, afterRegion, assignV, boxOf, newBox, hasIdsP, keepF, ofVal, ofCell, plen, pesz, callV, builtinV, lenV, binV, unV, arith, shiftI, loadV, storeV, putV, indexAddrV, live, upd, pget, pset, psetA, pagg, retag, retagP, byteAV, freezeP, freezeV, joinTags, joinTag, tags, ids, scalar, cellsLen, eqV, convV, faV, fvV, shiftBy, shiftRo, readSl, strOp]

theorem sameB_ev {H : AM.Heap} {a a2 : AV} {l m : List UInt8} (h : Byt H a l) (h2 : Byt H a2 m) : evT X 10 [a, a2] H = some (.bool (l == m), H) := by
  obtain ⟨c2, p2, x2, hp2, _, hx2⟩ := args_byt (C := X) (f := 10) (i := 1) rfl h2 (args_nil 2)
  obtain ⟨c, p, x, hp, _, hx⟩ := args_byt (C := X) (f := 10) (i := 0) rfl h hx2
  obtain ⟨code, hcode, hr⟩ := sameB_code c c2 l m
  refine evT_eq (Ev1.toldP (l := [.bool (l == m)]) (evT_below X) Tryd.func10 hcode hx (by simp [idsL, ids, hp.ids, hp2.ids]) (by simp [gtag]) rfl rfl rfl ?_)
  rw [par10, coB hp, coB hp2]
  exact ⟨_, ⟨rfl, rfl⟩, hr⟩

/-- a command laid into a new box -/
theorem st26 {H : AM.Heap} {x : Cm} {d : AV} (hd : scalar d = true) : storeV X (H ++ [some ⟨.pc [.int .u8 0, .str [], .int .u32 0, .int .u16 0, .int .u8 0, .int .u32 0, .int .u16 0, .ro 0 .pn 0], 0, some 8, 1, false, true, 0⟩]) 26 (.ptr H.length 0 0 0) (.agg (x.pay d)) = some (H ++ [some (cmO x d)]) := by
  have hl : live (H ++ [some ⟨.pc [.int .u8 0, .str [], .int .u32 0, .int .u16 0, .int .u8 0, .int .u32 0, .int .u16 0, .ro 0 .pn 0], 0, some 8, 1, false, true, 0⟩]) H.length 0 = some ⟨.pc [.int .u8 0, .str [], .int .u32 0, .int .u16 0, .int .u8 0, .int .u32 0, .int .u16 0, .ro 0 .pn 0], 0, some 8, 1, false, true, 0⟩ := by
    simp [live]
  simp only [storeV, hl]
  have hp : putV X ⟨.pc [.int .u8 0, .str [], .int .u32 0, .int .u16 0, .int .u8 0, .int .u32 0, .int .u16 0, .ro 0 .pn 0], 0, some 8, 1, false, true, 0⟩ 26 0 0 (.agg (x.pay d)) = some (x.pay d) := by
    simp [putV, Cm.pay, cellsLen, plen, pesz, psetA, flatCells, splice, scalars, hd]
    simp [AM.scalar]
  rw [hp]
  simp [upd, cmO]

def wsR (b : List UInt8) (id : Nat) : List UInt8 × Int :=
  if (readR b).2 ≠ 0 then ([], (readR b).2) else if abt (readR b).1.k then appR [] { (readR b).1 with st := id } else ([], 2)

end Go.Proofs.YtmdciglfpedhgaaDoor
