/- Walks: Check; a fixed number behind bytes. -/
import Derived.Test.YtmdciglfpedhgaaDoorK7
namespace Go.Proofs.YtmdciglfpedhgaaDoor
open Go.AM
set_option linter.unusedSimpArgs false
set_option linter.unusedVariables false

section
variable (x : Cm) (c : Nat) (p : AV)

set_option maxRecDepth 100000 in
theorem check_code (hk : x.k < 256) (hp : PB p x.dat) : ∃ code, Tryd.f11.body = some code ∧
    Tells (Rets fun fr H => getF fr 2 = .int .i64 (chkR x)) X (evT X) 11 0 code [(0, .agg (x.pay (.ro c p 1)))] [] := by
  refine ⟨_, rfl, ?_⟩
  have hB := bare_ev (H := [some (cmO x (.ro c p 1))]) hk (c := c) (t := 1) hp
  have hpl := hp.plen
  obtain ⟨c', p', t', hd, hdl⟩ : ∃ c' p' t', barD x (.ro c p 1) = .ro c' p' t' ∧ plen p' = (barR x).dat.length := by
    rcases barR_dat x (.ro c p 1) with ⟨h1, h2⟩ | ⟨h1, h2⟩
    · exact ⟨_, _, _, h1, by rw [h2]; exact hpl⟩
    · exact ⟨_, _, _, h1, by rw [h2]; rfl⟩
  rw [hd] at hB
  unfold chkR
  generalize barR x = y at *
  apply Tells.seq (fr' := [(1, .ptr 0 0 0 0)]) (H' := [some (cmO x (.ro c p 1))])
  · (refine ⟨0, ?_⟩; simp (maxSteps := 2000000) -implicitDefEqProofs [-getElem?_pos, List.getElem?_cons_zero, List.getElem?_cons_succ, exec, runOps, dstOk, wantedV, AM.step, evalT, evalO, evalArgs, evalParts, getF, putF, afterRegion, assignV, boxOf, newBox, hasIdsP, keepF, ofVal, ofCell, plen, pesz, callV, builtinV, lenV, binV, unV, arith, shiftI, loadV, storeV, putV, indexAddrV, live, upd, pget, pset, psetA, pagg, retag, retagP, byteAV, freezeP, freezeV, joinTags, joinTag, tags, ids, scalar, cellsLen, eqV, convV, faV, fvV, shiftBy, shiftRo, cmO, Cm.pay])
  apply Tells.seq (fr' := [(1, .ptr 0 0 0 0), (3, .ptr 1 0 0 0)]) (H' := [some (cmO x (.ro c p 1)), some (cmO y (.ro c' p' t'))])
  · simp only [cmO, Cm.pay] at hB
    (refine ⟨0, ?_⟩; simp (maxSteps := 2000000) -implicitDefEqProofs [-getElem?_pos, List.getElem?_cons_zero, List.getElem?_cons_succ, exec, runOps, dstOk, wantedV, AM.step, evalT, evalO, evalArgs, evalParts, getF, putF, afterRegion, assignV, boxOf, newBox, hasIdsP, keepF, ofVal, ofCell, plen, pesz, callV, builtinV, lenV, binV, unV, arith, shiftI, loadV, storeV, putV, indexAddrV, live, upd, pget, pset, psetA, pagg, retag, retagP, byteAV, freezeP, freezeV, joinTags, joinTag, tags, ids, scalar, cellsLen, eqV, convV, faV, fvV, shiftBy, shiftRo, cmO, Cm.pay, hB, mk26, flatCells, splice, scalars, scalar])
  apply Tells.seq (fr' := ckFr (same7 y x)) (H' := [some (cmO x (.ro c p 1)), some (cmO y (.ro c' p' t'))])
  · obtain ⟨code, hcode, hblk⟩ := cmp_code x y c c' t' p p' hpl hdl
    have gen : ∀ code', cmpO = some code' → Run X (evT X) 11 0 code' [(1, .ptr 0 0 0 0), (3, .ptr 1 0 0 0)] [some (cmO x (.ro c p 1)), some (cmO y (.ro c' p' t'))] ⟨.normal, ckFr (same7 y x), [some (cmO x (.ro c p 1)), some (cmO y (.ro c' p' t'))]⟩ := fun code' h => by
      rw [hcode] at h
      exact (Option.some.inj h) ▸ hblk
    exact gen _ rfl
  clear hB
  generalize same7 y x = q
  cases q with
  | false =>
    rw [if_neg (by simp)]
    refine Tells.of (o := ⟨.ret, [(2, .int .i64 2)], [some (cmO x (.ro c p 1)), some (cmO y (.ro c' p' t'))]⟩) ⟨0, ?_⟩ ⟨rfl, rfl⟩
    simp (maxSteps := 2000000) -implicitDefEqProofs [-getElem?_pos, List.getElem?_cons_zero, List.getElem?_cons_succ, exec, runOps, dstOk, wantedV, AM.step, evalT, evalO, evalArgs, evalParts, getF, putF, afterRegion, assignV, boxOf, newBox, hasIdsP, keepF, ofVal, ofCell, plen, pesz, callV, builtinV, lenV, binV, unV, arith, shiftI, loadV, storeV, putV, indexAddrV, live, upd, pget, pset, psetA, pagg, retag, retagP, byteAV, freezeP, freezeV, joinTags, joinTag, tags, ids, scalar, cellsLen, eqV, convV, faV, fvV, shiftBy, shiftRo, ckFr]
  | true =>
    by_cases hf : x.fl ≤ 1
    · rw [if_pos ⟨rfl, hf⟩]
      have hfi : ¬ (1 : Int) < (x.fl : Int) := by omega
      refine Tells.of (o := ⟨.ret, [(2, .int .i64 0)], [some (cmO x (.ro c p 1)), some (cmO y (.ro c' p' t'))]⟩) ⟨0, ?_⟩ ⟨rfl, rfl⟩
      simp (maxSteps := 2000000) -implicitDefEqProofs [-getElem?_pos, List.getElem?_cons_zero, List.getElem?_cons_succ, exec, runOps, dstOk, wantedV, AM.step, evalT, evalO, evalArgs, evalParts, getF, putF, afterRegion, assignV, boxOf, newBox, hasIdsP, keepF, ofVal, ofCell, plen, pesz, callV, builtinV, lenV, binV, unV, arith, shiftI, loadV, storeV, putV, indexAddrV, live, upd, pget, pset, psetA, pagg, retag, retagP, byteAV, freezeP, freezeV, joinTags, joinTag, tags, ids, scalar, cellsLen, eqV, convV, faV, fvV, shiftBy, shiftRo, ckFr, cmO, Cm.pay, hfi]
    · rw [if_neg (fun h => hf h.2)]
      have hfi : (1 : Int) < (x.fl : Int) := by omega
      refine Tells.of (o := ⟨.ret, [(2, .int .i64 2)], [some (cmO x (.ro c p 1)), some (cmO y (.ro c' p' t'))]⟩) ⟨0, ?_⟩ ⟨rfl, rfl⟩
      simp (maxSteps := 2000000) -implicitDefEqProofs [-getElem?_pos, List.getElem?_cons_zero, List.getElem?_cons_succ, exec, runOps, dstOk, wantedV, AM.step, evalT, evalO, evalArgs, evalParts, getF, putF, afterRegion, assignV, boxOf, newBox, hasIdsP, keepF, ofVal, ofCell, plen, pesz, callV, builtinV, lenV, binV, unV, arith, shiftI, loadV, storeV, putV, indexAddrV, live, upd, pget, pset, psetA, pagg, retag, retagP, byteAV, freezeP, freezeV, joinTags, joinTag, tags, ids, scalar, cellsLen, eqV, convV, faV, fvV, shiftBy, shiftRo, ckFr, cmO, Cm.pay, hfi]

end

/-- a command that is handed to a call: its data lent -/
def CmA (H : AM.Heap) (a : AV) (x : Cm) : Prop := ∃ c p, PB p x.dat ∧ (c = 0 → x.dat = []) ∧ ∀ t, ∃ ln : Lent, lendV H t a = some (.agg (x.pay (.ro c p t)), ln)

theorem CmA.ro {H : AM.Heap} {x : Cm} {c t : Nat} {p : AV} (hp : PB p x.dat) (hc : c = 0 → x.dat = []) : CmA H (.agg (x.pay (.ro c p t))) x :=
  ⟨c, p, hp, hc, fun t' => ⟨⟨[], [t]⟩, by simp [lendV, lendL, lend1, Cm.pay, tags]⟩⟩

theorem CmA.of {H : AM.Heap} {x : Cm} {d : AV} (h : Byt H d x.dat) : CmA H (.agg (x.pay d)) x := by
  obtain ⟨c, p, hp, hc, hl⟩ := h
  refine ⟨c, p, hp, hc, fun t => ?_⟩
  obtain ⟨ln, hln⟩ := hl t
  have h1 : lend1 H t d = some (.ro c p t, ln) := by
    cases d <;> first | exact hln | skip
    case agg q => cases q <;> simp [lendV, lend1] at hln
    case fn f l => simp [lendV] at hln
  have e1 : ∀ k n, lend1 H t (.int k n) = some (.int k n, ⟨[], []⟩) := fun _ _ => rfl
  have e2 : ∀ s, lend1 H t (.str s) = some (.str s, ⟨[], []⟩) := fun _ => rfl
  simp only [lendV, Cm.pay, lendL, e1, e2, h1, Option.map_some]
  exact ⟨_, rfl⟩

theorem args_cm {f i : Nat} {H : AM.Heap} {a : AV} {x : Cm} {r ys : List AV} {xs : List Lent} (h : CmA H a x) (hr : lendArgs X f H (i + 1) r = some (ys, xs)) (hrw : X.rw f i = false := by rfl) :
    ∃ c p ln, PB p x.dat ∧ (c = 0 → x.dat = []) ∧ lendArgs X f H i (a :: r) = some (.agg (x.pay (.ro c p (i + 1))) :: ys, ln :: xs) := by
  obtain ⟨c, p, hp, hc, hl⟩ := h
  obtain ⟨ln, hln⟩ := hl (i + 1)
  exact ⟨c, p, ln, hp, hc, by simp only [lendArgs, hrw, hln, hr]⟩

theorem check_ev {H : AM.Heap} {a : AV} {x : Cm} (hk : x.k < 256) (h : CmA H a x) : evT X 11 [a] H = some (.int .i64 (chkR x), H) := by
  obtain ⟨c, p, ln, hp, hc, hl⟩ := args_cm (f := 11) (i := 0) h (args_nil 1)
  obtain ⟨code, hcode, ⟨o, ⟨he, h2⟩, hrun⟩⟩ := check_code x c p hk hp
  exact evT_eq (Ev1.toldP (l := [.int .i64 (chkR x)]) (evT_below X) Tryd.func11 hcode hl (by simp [Cm.pay, idsL, ids, hp.ids]) (by simp [gtag]) rfl rfl rfl
    ⟨o, ⟨he, by show some [getF o.fr 2] = _; rw [h2]⟩, hrun⟩)

theorem fixedB_code (c : Nat) (b : List UInt8) (x n : Nat) (hc : c = 0 → b = []) (hb : b.length ≤ 90000000) (h1 : 1 ≤ n) (h8 : n ≤ 8) (hx : x < 256 ^ n) : ∃ code, Tryd.f23.body = some code ∧
    Tells (Rets fun fr H => ∃ o g ob, getF fr 6 = .sl o 0 (b.length + n) g ∧ H[o]? = some (some ob) ∧ Rw (.pb (b ++ leB n x)) g ob) X (evT X) 23 0 code [(0, .ro c (.pb b) 1), (1, .int .u64 (x : Nat)), (2, .int .i64 (n : Nat))] [] := by
  refine ⟨_, rfl, ?_⟩
  obtain ⟨ob, hw, hA⟩ := af_ev (H := [some nilB]) (a := .ro c (.pb b) 1) (b := b) (x := x) (n := n) (Byt.ro (.inl rfl) hc) hb h1 h8 hx
  refine Tells.of (o := ⟨.ret, [(6, .sl 1 0 (b.length + n) 0)], [some nilB, some ob]⟩) ⟨0, ?_⟩ ⟨rfl, 1, 0, ob, rfl, rfl, hw⟩
  simp (maxSteps := 2000000) -implicitDefEqProofs [-getElem?_pos, List.getElem?_cons_zero, List.getElem?_cons_succ, exec, runOps, dstOk, wantedV, AM.step, evalT, evalO, evalArgs, evalParts, getF, putF, afterRegion, assignV, boxOf, newBox, hasIdsP, keepF, ofVal, ofCell, plen, pesz, callV, builtinV, lenV, binV, unV, arith, shiftI, loadV, storeV, putV, indexAddrV, live, upd, pget, pset, psetA, pagg, retag, retagP, byteAV, freezeP, freezeV, joinTags, joinTag, tags, ids, scalar, cellsLen, eqV, convV, faV, fvV, shiftBy, shiftRo, assignV, emB, hA]

theorem fixedB_ev {H : AM.Heap} {a : AV} {b : List UInt8} {x n : Nat} {N : Int} (hN : N = (n : Nat)) (h : Byt H a b) (hb : b.length ≤ 90000000) (h1 : 1 ≤ n) (h8 : n ≤ 8) (hx : x < 256 ^ n) :
    ∃ ob, Rw (.pb (b ++ leB n x)) 0 ob ∧ evT X 23 [a, .int .u64 (x : Nat), .int .i64 N] H = some (.sl H.length 0 (b.length + n) 0, H ++ [some ob]) := by
  subst hN
  obtain ⟨c, p, xl, hp, hc, hx'⟩ := args_byt (C := X) (f := 23) (i := 0) rfl h (args_flat (i := 1) (a := .int .u64 (x : Nat)) rfl rfl (args_flat (i := 2) (a := .int .i64 (n : Nat)) rfl rfl (args_nil 3)))
  obtain ⟨code, hcode, hr⟩ := fixedB_code c b x n hc hb h1 h8 hx
  obtain ⟨ob, q1, q2⟩ := Ev1.newB (H := H) (n := b.length + n) (l := b ++ leB n x) (rest := []) (evT_below X) Tryd.func23 hcode hx' (by simp [idsL, ids, hp.ids]) (by simp [gtag]) rfl rfl rfl (by
    obtain ⟨o, ⟨he, o1, g, ob, q1, q3, q4⟩, hrun⟩ := hr
    exact ⟨o, ⟨he, o1, g, ob, by show some [getF o.fr 6] = _; rw [q1], q3, q4⟩, by rw [par23, coB hp]; exact hrun⟩)
  exact ⟨ob, q1, evT_eq q2⟩

end Go.Proofs.YtmdciglfpedhgaaDoor
