/- Y5 to TC: texts of this claim, one behind the other; what each shows stands at its head. -/
import Derived.Test.YtafdnpcamepbmaaDoorAm3
import Derived.Test.YtafdnpcamepbmaaDoorMg5
/- Walks: a binary row read: types of nothing. -/
namespace Go.Proofs.YtafdnpcamepbmaaDoor
open Go.AM
set_option linter.unusedSimpArgs false
set_option linter.unusedVariables false

section
variable (e : Nat) (ts : List Ty) (L : Nat) (b : List UInt8) (cb tb : Nat)

def nzFr (i : Nat) : AM.Frame := [(1, tyA e ts), (2, .ptr 0 0 0 0), (12, t12 L), (84, tyA e ts), (85, .int .i64 (ts.length : Nat)), (86, .int .i64 (i : Nat))]

set_option maxRecDepth 100000 in
set_option maxHeartbeats 4000000 in
/-- no type of nothing may have a value -/
theorem nz_loop (ob0 : AM.Obj) (H : AM.Heap) (hn : ts.length ≤ 4096) (hb : b.length ≤ 1000) (hm : ts.length + 2 ≤ 8 * b.length) (ht : ∀ t ∈ ts, t.t < 256) (hH : zbHp L b cb tb ob0 H) :
    ∃ code, ((Tryd.f5.body).bind (codeAt [1, 1, 1, 1, 1, 1, 1, 1, 1, 1, 0, 1])) = some code ∧
      Tells (Or2 (fun fr H => (List.range ts.length).any (nzB b ts) = false ∧ fr = nzFr e ts L ts.length ++ [(87, .bool false)] ∧ zbHp L b cb tb ob0 H) (fun out => out.ex = .ret ∧ (List.range ts.length).any (nzB b ts) = true ∧ ytQ ([], 5) out.fr out.H))
       X (evT X) 5 0 code (nzFr e ts L 0) H := by
  refine ⟨_, rfl, ?_⟩
  have hTl : (ts.map Ty.pay).length = ts.length := List.length_map _
  have hTat : ∀ (i : Nat) (v : Ty), ts[i]? = some v → (ts.map Ty.pay)[i]? = some v.pay := fun i p h => (by rw [List.getElem?_map, h]; rfl)
  unfold nzFr tyA t12
  generalize ts.map Ty.pay = T at *
  apply Tells.blockOr
  refine Tells.loopP (fun k fr H => ∃ i, k = ts.length - i ∧ i ≤ ts.length ∧ fr = [(1, .ro e (.pr 2 T) 2), (2, .ptr 0 0 0 0), (12, .fn 15 [.ptr L 0 0 0]), (84, .ro e (.pr 2 T) 2), (85, .int .i64 (ts.length : Nat)), (86, .int .i64 (i : Nat))] ∧ zbHp L b cb tb ob0 H ∧ ∀ (j : Nat), j < i → nzB b ts j = false) ?_ (k := ts.length) ⟨0, rfl, by omega, rfl, hH, by omega⟩
  rintro k fr H ⟨i, rfl, hi, rfl, ⟨h0, hL, tg, h1⟩, hall⟩
  by_cases hin : i = ts.length
  · subst hin
    refine Tells.of (o := ⟨.exit 5, [(1, .ro e (.pr 2 T) 2), (2, .ptr 0 0 0 0), (12, .fn 15 [.ptr L 0 0 0]), (84, .ro e (.pr 2 T) 2), (85, .int .i64 (ts.length : Nat)), (86, .int .i64 (ts.length : Nat))] ++ [(87, .bool false)], H⟩) ⟨0, ?_⟩ (.inr ⟨by simp, .inl ⟨rfl, ?_, rfl, h0, hL, tg, h1⟩⟩)
    · simp (maxSteps := 2000000) -implicitDefEqProofs [-getElem?_pos, List.getElem?_cons_zero, List.getElem?_cons_succ, go_sem, eqV, plen, loadV, storeV]
    · rw [List.any_eq_false]
      intro j hj
      rw [hall j (List.mem_range.1 hj)]; simp
  have hlt : i < ts.length := by omega
  have hiI : (i : Int) < (ts.length : Int) := by omega
  obtain ⟨t, htt⟩ : ∃ p, ts[i]? = some p := ⟨_, List.getElem?_eq_getElem hlt⟩
  have hrow := hTat i t htt
  have w1 : IntKind.i64.wrap ((i : Int) + 1) = ((i + 1 : Nat) : Int) := by rw [wrap_i64 (by omega) (by omega)]; omega
  have w2 : IntKind.i64.wrap ((i : Int) + 2) = ((i + 2 : Nat) : Int) := by rw [wrap_i64 (by omega) (by omega)]; omega
  have hnew : ∀ x : Option AM.Obj, (H ++ [x])[H.length]? = some x := fun x => by simp
  have hS := set_ev (H := H ++ [some (tyO t)]) (I := ((i + 2 : Nat) : Int)) rfl (at_cat h1) (by omega) (by omega)
  have hnz : nzB b ts i = (decide (t.t = 6) && !bitB b (i + 2)) := by unfold nzB; rw [tyI_at htt]
  have hLl := at_lt h1
  have hup : upd (H ++ [some (tyO t)]) L (some (roB cb (.pb b) tb tb)) = upd H L (some (roB cb (.pb b) tb tb)) ++ [some (tyO t)] := by unfold upd; rw [List.set_append_left _ _ hLl]
  rw [hup] at hS
  have hL1 : (upd H L (some (roB cb (.pb b) tb tb)))[0]? = some (some ob0) := at_ne h0 (by omega)
  have hL2 : (upd H L (some (roB cb (.pb b) tb tb)))[L]? = some (some (roB cb (.pb b) tb tb)) := at_set h1
  have hul : (upd H L (some (roB cb (.pb b) tb tb))).length = H.length := by simp [upd]
  generalize upd H L (some (roB cb (.pb b) tb tb)) = HU at *
  simp only [tyO, Ty.pay] at hS hrow
  generalize i + 2 = i2 at *
  by_cases h6 : t.t = 6
  · rw [decide_eq_true h6, Bool.true_and] at hnz
    have h6b : ((t.t : Int) == 6) = true := by rw [h6]; rfl
    cases hbit : bitB b i2 with
    | false =>
      rw [hbit] at hS hnz
      refine Tells.of (o := ⟨.ret, [(4, .sl (HU.length + 1) 0 0 0), (5, .int .i64 5)], HU ++ [some (tyO t)] ++ [some nilV]⟩) ⟨0, ?_⟩ (.inr ⟨by simp, .inr ⟨rfl, rfl, List.any_eq_true.2 ⟨i, List.mem_range.2 hlt, hnz⟩, HU.length + 1, 0, nilV, rfl, rfl, by simp, nilV_rw⟩⟩)
      simp (maxSteps := 2000000) -implicitDefEqProofs [-getElem?_pos, List.getElem?_cons_zero, List.getElem?_cons_succ, go_sem, eqV, plen, loadV, storeV, hiI, hlt, hTl, hrow, tyO, Ty.pay, retagL, retag, retagP, flatCells, splice, scalars, scalar, hnew, mkTy, w2, hS, h6b, unV, assignV, emV]
    | true =>
      rw [hbit] at hS hnz
      refine Tells.of (o := ⟨.normal, [(1, .ro e (.pr 2 T) 2), (2, .ptr 0 0 0 0), (12, .fn 15 [.ptr L 0 0 0]), (84, .ro e (.pr 2 T) 2), (85, .int .i64 (ts.length : Nat)), (86, .int .i64 ((i + 1 : Nat) : Int))], HU ++ [some (tyO t)]⟩) ⟨0, ?_⟩ (.inl ⟨rfl, ts.length - (i + 1), by omega, i + 1, rfl, by omega, rfl, ⟨at_cat hL1, hL, tb, at_cat hL2⟩, fun j hj => ?_⟩)
      · simp (maxSteps := 2000000) -implicitDefEqProofs [-getElem?_pos, List.getElem?_cons_zero, List.getElem?_cons_succ, go_sem, eqV, plen, loadV, storeV, hiI, hlt, hTl, hrow, tyO, Ty.pay, retagL, retag, retagP, flatCells, splice, scalars, scalar, hnew, mkTy, w1, w2, hS, h6b, unV]
      · by_cases hji : j = i
        · subst hji; exact hnz
        · exact hall j (by omega)
  · rw [decide_eq_false h6, Bool.false_and] at hnz
    have h6b : ((t.t : Int) == 6) = false := beq_eq_false_iff_ne.2 (by omega)
    refine Tells.of (o := ⟨.normal, [(1, .ro e (.pr 2 T) 2), (2, .ptr 0 0 0 0), (12, .fn 15 [.ptr L 0 0 0]), (84, .ro e (.pr 2 T) 2), (85, .int .i64 (ts.length : Nat)), (86, .int .i64 ((i + 1 : Nat) : Int))], H ++ [some (tyO t)]⟩) ⟨0, ?_⟩ (.inl ⟨rfl, ts.length - (i + 1), by omega, i + 1, rfl, by omega, rfl, ⟨at_cat h0, hL, tg, at_cat h1⟩, fun j hj => ?_⟩)
    · simp (maxSteps := 2000000) -implicitDefEqProofs [-getElem?_pos, List.getElem?_cons_zero, List.getElem?_cons_succ, go_sem, eqV, plen, loadV, storeV, hiI, hlt, hTl, hrow, tyO, Ty.pay, retagL, retag, retagP, flatCells, splice, scalars, scalar, hnew, mkTy, w1, h6b, unV]
    · by_cases hji : j = i
      · subst hji; exact hnz
      · exact hall j (by omega)

end

end Go.Proofs.YtafdnpcamepbmaaDoor

/- Walks: a value read: whole. -/
namespace Go.Proofs.YtafdnpcamepbmaaDoor
open Go.AM
set_option linter.unusedSimpArgs false
set_option linter.unusedVariables false

section
variable (c : Nat) (b : List UInt8) (t : Ty)

set_option maxRecDepth 100000 in
set_option maxHeartbeats 4000000 in
theorem vread_code (hc : c = 0 → b = []) (ht : t.t < 256) (hbm : b.length ≤ 90000000) :
    ∃ code, Tryd.f16.body = some code ∧
    Tells (Rets (rvQ (rdV b t))) X (evT X) 16 0 code [(0, .ro c (.pb b) 1), (1, .agg t.pay)] [] := by
  refine ⟨_, rfl, ?_⟩
  have hK := kind_ev ht [some (tyO t), some (vaO {})]
  have hbd := kind_bd t.t t.u
  have hB : Byt [some (tyO t), some (vaO {})] (.ro c (.pb b) 1) b := Byt.ro (.inl rfl) hc
  have hb0 := bvV0
  apply Tells.seq (fr' := [(0, .ro c (.pb b) 1), (3, .ptr 0 0 0 0), (4, .ptr 1 0 0 0)]) (H' := [some (tyO t), some (vaO {})])
  · (refine ⟨0, ?_⟩; simp (maxSteps := 2000000) -implicitDefEqProofs [-getElem?_pos, List.getElem?_cons_zero, List.getElem?_cons_succ, go_sem, eqV, plen, loadV, storeV, tyO, Ty.pay, vaO, Va.pay])
  apply Tells.seq (fr' := [(0, .ro c (.pb b) 1), (3, .ptr 0 0 0 0), (4, .ptr 1 0 0 0), (7, .int .i64 (kindN t.t t.u))]) (H' := [some (tyO t), some (vaO {})])
  · simp only [tyO, Ty.pay, vaO, Va.pay, Int.cast_ofNat_Int] at hK
    generalize kindN t.t t.u = k at *
    (refine ⟨0, ?_⟩; simp (maxSteps := 2000000) -implicitDefEqProofs [-getElem?_pos, List.getElem?_cons_zero, List.getElem?_cons_succ, go_sem, eqV, plen, loadV, storeV, tyO, Ty.pay, vaO, Va.pay, mkTy, hK])
  clear hK
  apply Tells.assoc
  apply Tells.seq (fr' := [(0, .ro c (.pb b) 1), (3, .ptr 0 0 0 0), (4, .ptr 1 0 0 0), (7, .int .i64 (kindN t.t t.u)), (19, .int .i64 (kindN t.t t.u))]) (H' := [some (tyO t), some (vaO {})])
  · generalize kindN t.t t.u = k at *
    (refine ⟨0, ?_⟩; simp (maxSteps := 2000000) -implicitDefEqProofs [-getElem?_pos, List.getElem?_cons_zero, List.getElem?_cons_succ, go_sem, eqV, plen, loadV, storeV])
  apply Tells.or (P := fun fr H => fr = [(0, .ro c (.pb b) 1), (3, .ptr 0 0 0 0), (4, .ptr 1 0 0 0), (7, .int .i64 (kindN t.t t.u)), (45, .bool false)] ∧ H = [some (tyO t), some (vaO {})] ∧ (kindN t.t t.u = 1 ∨ kindN t.t t.u = 2 ∨ kindN t.t t.u = 3 ∨ kindN t.t t.u = 4))
  · apply Tells.blkOr (hq := fun o h => by rw [h.1]; simp)
    simp only [Va.pay, Int.cast_ofNat_Int] at hb0
    by_cases h1 : kindN t.t t.u < 0
    · have hm : kindN t.t t.u = -1 := by omega
      have hr : rdV b t = ({}, 0, 2) := if_pos h1
      rw [hr, hm]
      refine Tells.of (o := ⟨.ret, [(4, .ptr 1 0 0 0), (5, .int .i64 0), (6, .int .i64 2)], [some (tyO t), some (vaO {})]⟩) ⟨0, ?_⟩ (.inr ⟨by simp, rfl, rfl, rfl, rfl, rfl⟩)
      simp (maxSteps := 2000000) -implicitDefEqProofs [-getElem?_pos, List.getElem?_cons_zero, List.getElem?_cons_succ, go_sem, eqV, plen, loadV, storeV, tyO, Ty.pay, vaO, Va.pay, hb0, mkVa, flatCells, splice, scalars]
    have e1 : (kindN t.t t.u == -1) = false := beq_eq_false_iff_ne.2 (by omega)
    by_cases h2 : kindN t.t t.u = 0
    · have hr : rdV b t = ({}, 0, 0) := by unfold rdV; rw [if_neg h1, if_pos h2]
      rw [hr, h2]
      refine Tells.of (o := ⟨.ret, [(4, .ptr 1 0 0 0), (5, .int .i64 0), (6, .int .i64 0)], [some (tyO t), some (vaO {})]⟩) ⟨0, ?_⟩ (.inr ⟨by simp, rfl, rfl, rfl, rfl, rfl⟩)
      simp (maxSteps := 2000000) -implicitDefEqProofs [-getElem?_pos, List.getElem?_cons_zero, List.getElem?_cons_succ, go_sem, eqV, plen, loadV, storeV, tyO, Ty.pay, vaO, Va.pay, hb0, mkVa, flatCells, splice, scalars]
    have e2 : (kindN t.t t.u == 0) = false := beq_eq_false_iff_ne.2 h2
    by_cases h5 : kindN t.t t.u = 5 ∨ kindN t.t t.u = 6
    · have hr : rdV b t = if (rdW b t.t).2.2 ≠ 0 then ({}, 0, (rdW b t.t).2.2) else ({ k := kindN t.t t.u, w := (rdW b t.t).1 }, (rdW b t.t).2.1, 0) := by
        unfold rdV; rw [if_neg h1, if_neg h2, if_pos h5]
      rw [hr]
      have hW := rw_ev hB ht hbm
      generalize rdW b t.t = r at *
      obtain ⟨w, n, e⟩ := r
      have hbw := fun k => bvVw k w
      simp only [Wh.pay, Va.pay, Int.cast_ofNat_Int] at hbw
      simp only at *
      by_cases he : e = 0
      · subst he
        rw [if_neg (by simp)]
        refine Tells.of (o := ⟨.ret, [(4, .ptr 1 0 0 0), (5, .int .i64 (n : Nat)), (6, .int .i64 0)], [some (tyO t), some (vaO { k := kindN t.t t.u, w := w }), some (whO w)]⟩) ⟨0, ?_⟩ (.inr ⟨by simp, rfl, rfl, rfl, rfl, rfl⟩)
        simp only [tyO, Ty.pay, vaO, Va.pay, Wh.pay, Int.cast_ofNat_Int] at hW
        rcases h5 with h5 | h5 <;> rw [h5]
        · simp (maxSteps := 2000000) -implicitDefEqProofs [-getElem?_pos, List.getElem?_cons_zero, List.getElem?_cons_succ, go_sem, eqV, plen, loadV, storeV, tyO, Ty.pay, vaO, Va.pay, whO, Wh.pay, hW, hbw, mkVa, mkWh, flatCells, splice, scalars]
        · simp (maxSteps := 2000000) -implicitDefEqProofs [-getElem?_pos, List.getElem?_cons_zero, List.getElem?_cons_succ, go_sem, eqV, plen, loadV, storeV, tyO, Ty.pay, vaO, Va.pay, whO, Wh.pay, hW, hbw, mkVa, mkWh, flatCells, splice, scalars]
      · have heb : (e != 0) = true := by simpa using he
        rw [if_pos he]
        refine Tells.of (o := ⟨.ret, [(4, .ptr 1 0 0 0), (5, .int .i64 0), (6, .int .i64 e)], [some (tyO t), some (vaO {}), some (whO w)]⟩) ⟨0, ?_⟩ (.inr ⟨by simp, rfl, rfl, rfl, rfl, rfl⟩)
        simp only [tyO, Ty.pay, vaO, Va.pay, Wh.pay, Int.cast_ofNat_Int] at hW
        rcases h5 with h5 | h5 <;> rw [h5]
        · simp (maxSteps := 2000000) -implicitDefEqProofs [-getElem?_pos, List.getElem?_cons_zero, List.getElem?_cons_succ, go_sem, eqV, plen, loadV, storeV, tyO, Ty.pay, vaO, Va.pay, whO, Wh.pay, hW, hb0, heb, mkVa, mkWh, flatCells, splice, scalars]
        · simp (maxSteps := 2000000) -implicitDefEqProofs [-getElem?_pos, List.getElem?_cons_zero, List.getElem?_cons_succ, go_sem, eqV, plen, loadV, storeV, tyO, Ty.pay, vaO, Va.pay, whO, Wh.pay, hW, hb0, heb, mkVa, mkWh, flatCells, splice, scalars]
    have e5 : (kindN t.t t.u == 5) = false := beq_eq_false_iff_ne.2 (by omega)
    have e6 : (kindN t.t t.u == 6) = false := beq_eq_false_iff_ne.2 (by omega)
    by_cases h7 : kindN t.t t.u = 7
    · have hr : rdV b t = if (rdT b).2.2 ≠ 0 then ({}, 0, (rdT b).2.2) else if 16777216 < (rdT b).1.length then ({}, 0, 5) else ({ k := 7, t := (rdT b).1 }, (rdT b).2.1, 0) := by
        unfold rdV; rw [if_neg h1, if_neg h2, if_neg h5, if_pos h7]
      rw [hr, h7]
      have hT := readText_ev hB hbm
      generalize rdT b = r at *
      obtain ⟨s, n, e⟩ := r
      have hbt := fun k => bvVt k s
      simp only [Va.pay, Int.cast_ofNat_Int] at hbt
      simp only at *
      simp only [tyO, Ty.pay, vaO, Va.pay, Int.cast_ofNat_Int] at hT
      by_cases he : e = 0
      · subst he
        rw [if_neg (by simp)]
        by_cases hs : 16777216 < s.length
        · rw [if_pos hs]
          have hsi : (16777216 : Int) < (s.length : Int) := by omega
          refine Tells.of (o := ⟨.ret, [(4, .ptr 1 0 0 0), (5, .int .i64 0), (6, .int .i64 5)], [some (tyO t), some (vaO {})]⟩) ⟨0, ?_⟩ (.inr ⟨by simp, rfl, rfl, rfl, rfl, rfl⟩)
          simp (maxSteps := 2000000) -implicitDefEqProofs [-getElem?_pos, List.getElem?_cons_zero, List.getElem?_cons_succ, go_sem, eqV, plen, loadV, storeV, tyO, Ty.pay, vaO, Va.pay, hT, hb0, hsi, hs, mkVa, flatCells, splice, scalars]
        · rw [if_neg hs]
          have hsi : ¬ (16777216 : Int) < (s.length : Int) := by omega
          refine Tells.of (o := ⟨.ret, [(4, .ptr 1 0 0 0), (5, .int .i64 (n : Nat)), (6, .int .i64 0)], [some (tyO t), some (vaO { k := 7, t := s })]⟩) ⟨0, ?_⟩ (.inr ⟨by simp, rfl, rfl, rfl, rfl, rfl⟩)
          simp (maxSteps := 2000000) -implicitDefEqProofs [-getElem?_pos, List.getElem?_cons_zero, List.getElem?_cons_succ, go_sem, eqV, plen, loadV, storeV, tyO, Ty.pay, vaO, Va.pay, hT, hbt, hsi, hs, mkVa, flatCells, splice, scalars]
      · have heb : (e != 0) = true := by simpa using he
        rw [if_pos he]
        refine Tells.of (o := ⟨.ret, [(4, .ptr 1 0 0 0), (5, .int .i64 0), (6, .int .i64 e)], [some (tyO t), some (vaO {})]⟩) ⟨0, ?_⟩ (.inr ⟨by simp, rfl, rfl, rfl, rfl, rfl⟩)
        simp (maxSteps := 2000000) -implicitDefEqProofs [-getElem?_pos, List.getElem?_cons_zero, List.getElem?_cons_succ, go_sem, eqV, plen, loadV, storeV, tyO, Ty.pay, vaO, Va.pay, hT, hb0, heb, mkVa, flatCells, splice, scalars]
    have e7 : (kindN t.t t.u == 7) = false := beq_eq_false_iff_ne.2 h7
    refine Tells.of (o := ⟨.normal, [(0, .ro c (.pb b) 1), (3, .ptr 0 0 0 0), (4, .ptr 1 0 0 0), (7, .int .i64 (kindN t.t t.u)), (45, .bool false)], [some (tyO t), some (vaO {})]⟩) ⟨0, ?_⟩ (.inl ⟨rfl, rfl, rfl, by omega⟩)
    generalize kindN t.t t.u = k at *
    simp (maxSteps := 2000000) -implicitDefEqProofs [-getElem?_pos, List.getElem?_cons_zero, List.getElem?_cons_succ, go_sem, eqV, plen, loadV, storeV, e1, e2, e5, e6, e7]
  rintro fr H ⟨rfl, rfl, hk⟩
  exact piece (vread_num c b t hc ht hbm hk) _ rfl

end

theorem vread_ev {H : AM.Heap} {a : AV} {b : List UInt8} {t : Ty} (h : Byt H a b) (ht : t.t < 256) (hbm : b.length ≤ 90000000) :
    evT X 16 [a, .agg t.pay] H = some (.tup [.agg (rdV b t).1.pay, .int .i64 ((rdV b t).2.1 : Nat), .int .i64 (rdV b t).2.2], H) := by
  obtain ⟨c, p, xl, hp, hc, hx'⟩ := args_byt (C := X) (f := 16) (i := 0) rfl h (args_ty (f := 16) (i := 1) (t := t) (args_nil 2))
  obtain ⟨code, hcode, o, ⟨he, q4, q0, q5, q6⟩, hr⟩ := vread_code c b t hc ht hbm
  refine evT_eq (Ev1.toldP (l := [.agg (rdV b t).1.pay, .int .i64 ((rdV b t).2.1 : Nat), .int .i64 (rdV b t).2.2]) (evT_below X) Tryd.func16 hcode hx' (by simp [idsL, ids, Ty.pay]) (by simp [gtag]) (by simp [idsL, ids, Va.pay]) (by simp [tagsL, tags, Va.pay]) rfl ⟨o, ⟨he, ?_⟩, by rw [par16, coB hp]; exact hr⟩)
  generalize rdV b t = r at *
  show resultsV X o.fr o.H [.cell 4 38, .tmp 5, .tmp 6] = _
  simp only [vaO, Va.pay] at q0
  simp [resultsV, q4, q5, q6, loadV, live, q0, pagg, mkVa, Va.pay]

theorem rdW_le (b : List UInt8) (t : Nat) : (rdW b t).2.1 ≤ b.length := by
  unfold rdW
  repeat' split
  all_goals (try exact Nat.zero_le _)
  all_goals (simp only; omega)

end Go.Proofs.YtafdnpcamepbmaaDoor

/- Walks: a binary row read: a value. -/
namespace Go.Proofs.YtafdnpcamepbmaaDoor
open Go.AM
set_option linter.unusedSimpArgs false
set_option linter.unusedVariables false

/-- values at a place -/
def ytAt (K : Nat) (a : List Va) (H : AM.Heap) : Prop := ∃ ob, H[K]? = some (some ob) ∧ Rw (.pr 12 (a.map Va.pay)) a.length ob

/-- the heap of a round: what is left, the bits, the values so far -/
structure BvHp (c L K : Nat) (b : List UInt8) (cb tb : Nat) (H : AM.Heap) (a : List Va) (r : List UInt8) : Prop where
  h0 : H[0]? = some (some (roB c (.pb r) 1 1))
  hl : ∃ tg, H[L]? = some (some (roB cb (.pb b) tb tg))
  hk : ytAt K a H
  l0 : 0 < L
  k0 : 0 < K
  ne : K ≠ L

theorem BvHp.push {c L K : Nat} {b : List UInt8} {cb tb : Nat} {H : AM.Heap} {a : List Va} {r : List UInt8} (h : BvHp c L K b cb tb H a r) (x : AM.Heap) : BvHp c L K b cb tb (H ++ x) a r := by
  obtain ⟨tg, h1⟩ := h.hl
  obtain ⟨ob, h2, h3⟩ := h.hk
  exact ⟨at_cat h.h0, ⟨tg, at_cat h1⟩, ⟨ob, at_cat h2, h3⟩, h.l0, h.k0, h.ne⟩
theorem BvHp.look {c L K : Nat} {b : List UInt8} {cb tb : Nat} {H : AM.Heap} {a : List Va} {r : List UInt8} (h : BvHp c L K b cb tb H a r) : BvHp c L K b cb tb (upd H L (some (roB cb (.pb b) tb tb))) a r := by
  obtain ⟨tg, h1⟩ := h.hl
  obtain ⟨ob, h2, h3⟩ := h.hk
  exact ⟨at_ne h.h0 (by have := h.l0; omega), ⟨tb, at_set h1⟩, ⟨ob, at_ne h2 (by have := h.ne; omega), h3⟩, h.l0, h.k0, h.ne⟩
theorem BvHp.put {c L K : Nat} {b : List UInt8} {cb tb : Nat} {H : AM.Heap} {a a' : List Va} {r : List UInt8} {ob' : AM.Obj} (h : BvHp c L K b cb tb H a r) (hw : Rw (.pr 12 (a'.map Va.pay)) a'.length ob') : BvHp c L K b cb tb (upd H K (some ob')) a' r := by
  obtain ⟨tg, h1⟩ := h.hl
  obtain ⟨ob, h2, h3⟩ := h.hk
  exact ⟨at_ne h.h0 (by have := h.k0; omega), ⟨tg, at_ne h1 h.ne⟩, ⟨ob', at_set h2, hw⟩, h.l0, h.k0, h.ne⟩
theorem BvHp.store {c L K : Nat} {b : List UInt8} {cb tb : Nat} {H : AM.Heap} {a : List Va} {r : List UInt8} (r' : List UInt8) (h : BvHp c L K b cb tb H a r) : BvHp c L K b cb tb (upd H 0 (some (roB c (.pb r') 1 1))) a r' := by
  obtain ⟨tg, h1⟩ := h.hl
  obtain ⟨ob, h2, h3⟩ := h.hk
  exact ⟨at_set h.h0, ⟨tg, at_ne h1 (by have := h.l0; omega)⟩, ⟨ob, at_ne h2 (by have := h.k0; omega), h3⟩, h.l0, h.k0, h.ne⟩

section
variable (c e : Nat) (ts : List Ty) (L K : Nat) (b : List UInt8) (cb tb : Nat)

def bvFr (i : Nat) : AM.Frame := [(2, .ptr 0 0 0 0), (12, t12 L), (16, .sl K 0 i i), (102, tyA e ts), (103, .int .i64 (ts.length : Nat)), (104, .int .i64 (i : Nat))]
/-- behind a value -/
def bvFz (i : Nat) : AM.Frame := [(2, .ptr 0 0 0 0), (12, t12 L), (16, .sl K 0 (i + 1) (i + 1)), (102, tyA e ts), (103, .int .i64 (ts.length : Nat)), (104, .int .i64 (i : Nat))]

/-- a frame within a round -/
def bvFm (i : Nat) (m tl : AM.Frame) : AM.Frame := [(2, .ptr 0 0 0 0), (12, t12 L), (16, .sl K 0 i i)] ++ m ++ [(102, tyA e ts), (103, .int .i64 (ts.length : Nat)), (104, .int .i64 (i : Nat))] ++ tl

set_option maxRecDepth 100000 in
set_option maxHeartbeats 4000000 in
/-- the type's own place -/
theorem bv34 (i : Nat) (t : Ty) (H : AM.Heap) (ht : ts[i]? = some t) :
    ∃ code, ((Tryd.f5.body).bind (codeAt [1, 1, 1, 1, 1, 1, 1, 1, 1, 1, 1, 1, 0, 1, 0, 0, 1, 1, 0, 0, 0])) = some code ∧ Run X (evT X) 5 0 code (bvFr e ts L K i ++ [(105, .bool true)]) H ⟨.normal, bvFm e ts L K i [(17, .int .i64 (i : Nat)), (18, .ptr H.length 0 0 0)] [], H ++ [some (tyO t)]⟩ := by
  refine ⟨_, rfl, ?_⟩
  have hTl : (ts.map Ty.pay).length = ts.length := List.length_map _
  have hrow : (ts.map Ty.pay)[i]? = some t.pay := by rw [List.getElem?_map, ht]; rfl
  have hlt := at_lt ht
  have hiI : (i : Int) < (ts.length : Int) := by omega
  have hnew : ∀ x : Option AM.Obj, (H ++ [x])[H.length]? = some x := fun x => by simp
  unfold bvFr bvFm tyA t12
  generalize ts.map Ty.pay = T at *
  simp only [Ty.pay] at hrow
  (refine ⟨0, ?_⟩; simp (maxSteps := 2000000) -implicitDefEqProofs [-getElem?_pos, List.getElem?_cons_zero, List.getElem?_cons_succ, go_sem, eqV, plen, loadV, storeV, hiI, hlt, hTl, hrow, tyO, Ty.pay, retagL, retag, retagP, flatCells, splice, scalars, scalar, hnew, mkTy])

set_option maxRecDepth 100000 in
set_option maxHeartbeats 4000000 in
/-- is it nothing? -/
theorem bv35 (i k tg : Nat) (H : AM.Heap) (hi : i ≤ 4096) (h8 : i + 2 < 8 * b.length) (h1 : H[L]? = some (some (roB cb (.pb b) tb tg))) :
    ∃ code, ((Tryd.f5.body).bind (codeAt [1, 1, 1, 1, 1, 1, 1, 1, 1, 1, 1, 1, 0, 1, 0, 0, 1, 1, 0, 0, 1, 0, 0])) = some code ∧ Run X (evT X) 5 0 code (bvFm e ts L K i [(17, .int .i64 (i : Nat)), (18, .ptr k 0 0 0)] []) H ⟨.normal, bvFm e ts L K i [(18, .ptr k 0 0 0)] [(112, .bool (bitB b (i + 2)))], upd H L (some (roB cb (.pb b) tb tb))⟩ := by
  refine ⟨_, rfl, ?_⟩
  have w2 : IntKind.i64.wrap ((i : Int) + 2) = ((i + 2 : Nat) : Int) := by rw [wrap_i64 (by omega) (by omega)]; omega
  have hS := set_ev (H := H) (I := ((i + 2 : Nat) : Int)) rfl h1 (by omega) (by omega)
  unfold bvFm tyA t12
  generalize ts.map Ty.pay = T at *
  generalize i + 2 = i2 at *
  generalize upd H L (some (roB cb (.pb b) tb tb)) = HU at *
  (refine ⟨0, ?_⟩; simp (maxSteps := 2000000) -implicitDefEqProofs [-getElem?_pos, List.getElem?_cons_zero, List.getElem?_cons_succ, go_sem, eqV, plen, loadV, storeV, w2, hS])

set_option maxRecDepth 100000 in
set_option maxHeartbeats 4000000 in
/-- nothing, put behind the others -/
theorem bv36 (k : Nat) (a : List Va) (r : List UInt8) (H : AM.Heap) (ha : a.length ≤ 9000000) (hH : BvHp c L K b cb tb H a r) :
    ∃ H', BvHp c L K b cb tb H' (a ++ [({} : Va)]) r ∧ ∃ code, ((Tryd.f5.body).bind (codeAt [1, 1, 1, 1, 1, 1, 1, 1, 1, 1, 1, 1, 0, 1, 0, 0, 1, 1, 0, 0, 1, 0, 1, 0, 0])) = some code ∧ Run X (evT X) 5 0 code (bvFm e ts L K a.length [(18, .ptr k 0 0 0)] [(112, .bool true)]) H ⟨.normal, bvFz e ts L K a.length, H'⟩ := by
  obtain ⟨ob, h1, hw⟩ := hH.hk
  obtain ⟨ob', hw', hA⟩ := app_va ({} : Va) rfl ha h1 hw
  refine ⟨upd H K (some ob'), hH.put (by simpa using hw'), _, rfl, ?_⟩
  have hbs := fun H => bsVa H ({} : Va)
  have hbv := bvV0
  simp only [Va.pay, Int.cast_ofNat_Int] at hA hbs hbv
  unfold bvFm bvFz tyA t12
  generalize ts.map Ty.pay = T at *
  generalize a.length = i at *
  (refine ⟨0, ?_⟩; simp (maxSteps := 2000000) -implicitDefEqProofs [-getElem?_pos, List.getElem?_cons_zero, List.getElem?_cons_succ, go_sem, eqV, plen, loadV, storeV, hbv, hbs, hA, assignV])

set_option maxRecDepth 100000 in
set_option maxHeartbeats 4000000 in
/-- a value, read -/
theorem bv37 (i k tg : Nat) (t : Ty) (r : List UInt8) (H : AM.Heap) (hc : c = 0 → r = []) (ht : t.t < 256) (hr : r.length ≤ 90000000) (h0 : H[0]? = some (some (roB c (.pb r) 1 tg))) (hk : H[k]? = some (some (tyO t))) :
    ∃ code, ((Tryd.f5.body).bind (codeAt [1, 1, 1, 1, 1, 1, 1, 1, 1, 1, 1, 1, 0, 1, 0, 0, 1, 1, 0, 0, 1, 1, 0])) = some code ∧ Run X (evT X) 5 0 code (bvFm e ts L K i [(18, .ptr k 0 0 0)] [(112, .bool false)]) H ⟨.normal, bvFm e ts L K i [(19, .ptr H.length 0 0 0), (20, .int .i64 ((rdV r t).2.1 : Nat)), (21, .int .i64 (rdV r t).2.2)] [], H ++ [some (vaO (rdV r t).1)]⟩ := by
  refine ⟨_, rfl, ?_⟩
  have hV := vread_ev (H := H) (a := .ro c (.pb r) 1) (b := r) (t := t) (Byt.ro (.inl rfl) hc) ht hr
  have hnew : ∀ x : Option AM.Obj, (H ++ [x])[H.length]? = some x := fun x => by simp
  generalize rdV r t = x at *
  obtain ⟨v, n, er⟩ := x
  unfold bvFm tyA t12
  generalize ts.map Ty.pay = T at *
  simp only [Ty.pay, Va.pay] at hV
  (refine ⟨0, ?_⟩; simp (maxSteps := 2000000) -implicitDefEqProofs [-getElem?_pos, List.getElem?_cons_zero, List.getElem?_cons_succ, go_sem, eqV, plen, loadV, storeV, h0, hk, roB, tyO, Ty.pay, vaO, Va.pay, mkTy, mkVa, hV, hnew, retagL, retag, retagP, flatCells, splice, scalars, scalar, assignV])

set_option maxRecDepth 100000 in
set_option maxHeartbeats 4000000 in
/-- a value, put behind the others; what is left -/
theorem bv40 (k n : Nat) (v : Va) (a : List Va) (r : List UInt8) (H : AM.Heap) (hc : c = 0 → r = []) (hn : n ≤ r.length) (ha : a.length ≤ 9000000) (hk : H[k]? = some (some (vaO v))) (h0k : 0 < k) (hkK : k ≠ K) (hH : BvHp c L K b cb tb H a r) :
    ∃ H', BvHp c L K b cb tb H' (a ++ [v]) (r.drop n) ∧ ∃ code, ((Tryd.f5.body).bind (codeAt [1, 1, 1, 1, 1, 1, 1, 1, 1, 1, 1, 1, 0, 1, 0, 0, 1, 1, 0, 0, 1, 1, 1, 1])) = some code ∧ Run X (evT X) 5 0 code (bvFm e ts L K a.length [(19, .ptr k 0 0 0), (20, .int .i64 (n : Nat)), (21, .int .i64 0)] [(125, .bool false)]) H ⟨.normal, bvFz e ts L K a.length, H'⟩ := by
  obtain ⟨ob, h1, hw⟩ := hH.hk
  obtain ⟨ob', hw', hA⟩ := app_va v rfl ha h1 hw
  have hput : BvHp c L K b cb tb (upd H K (some ob')) (a ++ [v]) r := hH.put (by simpa using hw')
  refine ⟨upd (upd H K (some ob')) 0 (some (roB c (.pb (r.drop n)) 1 1)), hput.store _, _, rfl, ?_⟩
  have h0 := hput.h0
  have k0 := hH.k0
  have hkl := at_lt hk
  have hbs := fun H => bsVa H v
  have hsl := fun H => slFrom (c := c) (t := 1) (n := n) (b := r) hc hn H
  have hul : (upd H K (some ob')).length = H.length := by simp [upd]
  have n1 : (K == 0) = false := beq_eq_false_iff_ne.2 (by omega)
  have n2 : (k == 0) = false := beq_eq_false_iff_ne.2 (by omega)
  have n3 : (k == K) = false := beq_eq_false_iff_ne.2 (by omega)
  simp only [Va.pay] at hA hbs
  unfold bvFm bvFz tyA t12
  generalize ts.map Ty.pay = T at *
  generalize a.length = i at *
  generalize upd H K (some ob') = HU at *
  simp only [roB] at h0
  apply Run.dy (by simp) keep5_40 (by simp)
  · (conv => lhs; simp (maxSteps := 2000000) -implicitDefEqProofs [-getElem?_pos, List.getElem?_cons_zero, List.getElem?_cons_succ, go_sem, eqV, plen, loadV, storeV, runD, out1, markOf, freeO, quietO, pushes, isAssign, calledV, touched, mentioned, opVals, touchCall, mentionCall, idsAt, Op.operands, ids, idsL, lendArgs, lendV, lend1, lendL, eqH_self, hk, vaO, Va.pay, mkVa, hbs, hA, hsl, h0, roB, assignV, retagL, retag, retagP, flatCells, splice, scalars, scalar])
    rfl
  · refine marksOk_of (ps := [(0, 1), (0, 2), (0, 4), (1, 4), (2, 4), (3, 4), (0, 5), (1, 5), (2, 5), (3, 5), (4, 5), (0, 6), (1, 6), (2, 6), (3, 6), (4, 7), (5, 7), (6, 7)]) (by kernel_rfl) ?_
    simp [bearP, bear, disjoint, lookOk, noslVa, Call.operands, evalO, getF, idsL, ids]
    omega
  · rfl

end

end Go.Proofs.YtafdnpcamepbmaaDoor

/- Walks: the document's reader of fields: texts, bytes 0. -/
namespace Go.Proofs.YtafdnpcamepbmaaDoor
open Go.AM
set_option linter.unusedSimpArgs false
set_option linter.unusedVariables false

/-- a counted text off what is left -/
def rtF (s : St) : List UInt8 × St := if s.2 ≠ 0 then ([], s) else ((rdT s.1).1, s.1.drop (rdT s.1).2.1, (rdT s.1).2.2)
/-- n bytes 0 off what is left -/
def zrS (n : Nat) (s : St) : St := ((fx n s).2.1, wr ((bts n s).any (· != 0)) (fx n s).2.2)

theorem rdT_bad {b : List UInt8} (h : (rdT b).2.2 ≠ 0) : (rdT b).1 = [] ∧ (rdT b).2.1 = 0 := by
  unfold rdT at h ⊢
  split
  · exact ⟨rfl, rfl⟩
  · rename_i h1
    rw [if_neg h1] at h
    split
    · exact ⟨rfl, rfl⟩
    · rename_i h2
      rw [if_neg h2] at h
      exact absurd rfl h

theorem rdT_le' (b : List UInt8) : (rdT b).2.1 ≤ b.length := by
  by_cases h : (rdT b).2.2 = 0
  · exact (rdT_le h).1
  · rw [(rdT_bad h).2]; omega

theorem rtF_nil {c : Nat} {s : St} (h : c = 0 → s.1 = []) : c = 0 → (rtF s).2.1 = [] := by
  intro hc
  have := h hc
  unfold rtF; split
  · exact this
  · simp [this]
theorem rtF_len (s : St) : (rtF s).2.1.length ≤ s.1.length := by
  unfold rtF; split
  · exact Nat.le_refl _
  · simp

section
variable (c t tg : Nat) (s : St)

end

def zrFr (n len i : Nat) (bad : Bool) : AM.Frame := [(0, .ptr 0 0 0 0), (1, .int .i64 (n : Nat)), (4, .sl 1 0 len 0), (5, .bool bad), (6, .int .i64 (i : Nat))]

section
variable (c t : Nat) (s : St) (n : Nat)

end

end Go.Proofs.YtafdnpcamepbmaaDoor

/- Plain: a value that is read is no longer than what is there. -/
namespace Go.Proofs.YtafdnpcamepbmaaDoor
open Go.AM
set_option linter.unusedSimpArgs false
set_option linter.unusedVariables false

theorem rdV_le (b : List UInt8) (t : Ty) (hb : b.length ≤ 90000000) : (rdV b t).2.1 ≤ b.length := by
  have h1 := rdW_le b t.t
  have h2 := rdT_le' b
  unfold rdV
  by_cases hr : (rfR b (sizeN t.t)).2 = 0
  · have hs : sizeN t.t ≤ b.length := by
      unfold rfR at hr
      split at hr
      · cases hr
      · split at hr
        · cases hr
        · omega
    repeat' split
    all_goals (simp only)
    all_goals omega
  · rw [if_pos hr]
    repeat' split
    all_goals (simp only)
    all_goals omega

end Go.Proofs.YtafdnpcamepbmaaDoor

/- Walks: a binary row read: a round, all of them. -/
namespace Go.Proofs.YtafdnpcamepbmaaDoor
open Go.AM
set_option linter.unusedSimpArgs false
set_option linter.unusedVariables false

section
variable (c e : Nat) (ts : List Ty) (L K : Nat) (b : List UInt8) (cb tb : Nat)

set_option maxRecDepth 100000 in
set_option maxHeartbeats 4000000 in
theorem bv_round (a : List Va) (r : List UInt8) (t : Ty) (H : AM.Heap) (hn : ts.length ≤ 4096) (hb : b.length ≤ 1000) (hm : ts.length + 2 ≤ 8 * b.length) (ht : ts[a.length]? = some t) (h256 : t.t < 256) (hc : c = 0 → r = []) (hr : r.length ≤ 90000000) (hH : BvHp c L K b cb tb H a r) :
    ∃ code, ((Tryd.f5.body).bind (codeAt [1, 1, 1, 1, 1, 1, 1, 1, 1, 1, 1, 1, 0, 1, 0, 0, 1, 1, 0])) = some code ∧
      Tells (Or2 (fun fr H' => ∃ r' v, fr = bvFz e ts L K a.length ∧ r'.length ≤ r.length ∧ (∀ k, rbF (fun i => bitB b (i + 2)) ts (k + 1) a.length a r = rbF (fun i => bitB b (i + 2)) ts k (a.length + 1) (a ++ [v]) r') ∧ BvHp c L K b cb tb H' (a ++ [v]) r') (fun out => out.ex = .ret ∧ ∃ er, er ≠ 0 ∧ (∀ k, rbF (fun i => bitB b (i + 2)) ts (k + 1) a.length a r = ([], [], er)) ∧ ytQ ([], er) out.fr out.H))
       X (evT X) 5 0 code (bvFr e ts L K a.length ++ [(105, .bool true)]) H := by
  refine ⟨_, rfl, ?_⟩
  have hlt := at_lt ht
  have hH1 : BvHp c L K b cb tb (H ++ [some (tyO t)]) a r := hH.push _
  obtain ⟨tg, hL⟩ := hH1.hl
  have hH2 := hH1.look
  have hLl := at_lt hL
  have hLH : L < H.length := by obtain ⟨tg, h⟩ := hH.hl; exact at_lt h
  have hk2 : (upd (H ++ [some (tyO t)]) L (some (roB cb (.pb b) tb tb)))[H.length]? = some (some (tyO t)) := at_ne (by simp) (by omega)
  have r34 := bv34 e ts L K a.length t H ht
  have r35 := bv35 e ts L K b cb tb a.length H.length tg (H ++ [some (tyO t)]) (by omega) (by omega) hL
  have hHl : (upd (H ++ [some (tyO t)]) L (some (roB cb (.pb b) tb tb))).length = H.length + 1 := by simp [upd]
  generalize upd (H ++ [some (tyO t)]) L (some (roB cb (.pb b) tb tb)) = H2 at *
  cases hbit : bitB b (a.length + 2) with
  | true =>
    rw [hbit] at r35
    obtain ⟨H3, hH3, r36⟩ := bv36 c e ts L K b cb tb H.length a r H2 (by omega) hH2
    refine Tells.of (o := ⟨.normal, bvFz e ts L K a.length, H3⟩) ?_ (.inl ⟨rfl, r, {}, rfl, by simp, fun k => by rw [rbF, if_pos hbit], hH3⟩)
    apply Run.block_exit (id := 8)
    apply Run.seq (piece r34 _ rfl)
    apply Run.seq_out (hne := by simp)
    apply Run.seq (piece r35 _ rfl)
    refine condT (by simp [evalO, getF, bvFm]) ?_
    apply Run.seq (piece r36 _ rfl)
    exact ⟨0, rfl⟩
  | false =>
    rw [hbit] at r35
    have hX : ∀ k, rbF (fun i => bitB b (i + 2)) ts (k + 1) a.length a r = if (rdV r t).2.2 ≠ 0 then ([], [], (rdV r t).2.2) else rbF (fun i => bitB b (i + 2)) ts k (a.length + 1) (a ++ [(rdV r t).1]) (r.drop (rdV r t).2.1) := fun k => by rw [rbF, if_neg (by rw [hbit]; simp), tyI_at ht]
    have r37 := bv37 c e ts L K a.length H.length 1 t r H2 hc h256 hr hH2.h0 hk2
    have hle := rdV_le r t hr
    have hH3 : BvHp c L K b cb tb (H2 ++ [some (vaO (rdV r t).1)]) a r := hH2.push _
    have hk3 : (H2 ++ [some (vaO (rdV r t).1)])[H2.length]? = some (some (vaO (rdV r t).1)) := by simp
    generalize rdV r t = x at *
    obtain ⟨v, n, er⟩ := x
    simp only at *
    refine Tells.blkOr ?_ ?_
    · apply Tells.seq (piece r34 _ rfl)
      apply Tells.seq (fr' := bvFm e ts L K a.length [(18, .ptr H.length 0 0 0)] [(112, .bool false)]) (H' := H2)
      · apply Run.seq (piece r35 _ rfl)
        exact condF (by simp [evalO, getF, bvFm]) ⟨0, rfl⟩
      apply Tells.seq (piece r37 _ rfl)
      by_cases he : er = 0
      · subst he
        have hKl : K < H2.length := by obtain ⟨ob, h, _⟩ := hH2.hk; exact at_lt h
        apply Tells.seq (fr' := bvFm e ts L K a.length [(19, .ptr H2.length 0 0 0), (20, .int .i64 (n : Nat)), (21, .int .i64 0)] [(125, .bool false)]) (H' := H2 ++ [some (vaO v)])
        · apply Run.seq (fr' := bvFm e ts L K a.length [(19, .ptr H2.length 0 0 0), (20, .int .i64 (n : Nat)), (21, .int .i64 0)] [(125, .bool false)]) (H' := H2 ++ [some (vaO v)])
          · unfold bvFm tyA t12
            generalize ts.map Ty.pay = T at *
            (refine ⟨0, ?_⟩; simp (maxSteps := 2000000) -implicitDefEqProofs [-getElem?_pos, List.getElem?_cons_zero, List.getElem?_cons_succ, go_sem, eqV, plen, loadV, storeV])
          · exact condF (by simp [evalO, getF, bvFm]) ⟨0, rfl⟩
        obtain ⟨H4, hH4, r40⟩ := bv40 c e ts L K b cb tb H2.length n v a r (H2 ++ [some (vaO v)]) hc hle (by omega) hk3 (by omega) (by omega) hH3
        exact Tells.of (piece r40 _ rfl) (.inl ⟨rfl, r.drop n, v, rfl, by simp, fun k => by rw [hX, if_neg (by simp)], hH4⟩)
      · have heb : (er != 0) = true := by simpa using he
        refine Tells.of (o := ⟨.ret, [(4, .sl (H2.length + 1) 0 0 0), (5, .int .i64 er)], H2 ++ [some (vaO v)] ++ [some nilV]⟩) ?_ (.inr ⟨by simp, rfl, er, he, fun k => by rw [hX, if_pos he], H2.length + 1, 0, nilV, rfl, rfl, by simp, nilV_rw⟩)
        apply Run.seq_out (hne := by simp)
        unfold bvFm tyA t12
        generalize ts.map Ty.pay = T at *
        refine ⟨0, ?_⟩
        simp (maxSteps := 2000000) -implicitDefEqProofs [-getElem?_pos, List.getElem?_cons_zero, List.getElem?_cons_succ, go_sem, eqV, plen, loadV, storeV, heb, assignV, emV]
    · rintro o ⟨h1, _⟩
      rw [h1]; simp

set_option maxRecDepth 100000 in
set_option maxHeartbeats 4000000 in
theorem bv_loop (r : List UInt8) (H : AM.Heap) (hn : ts.length ≤ 4096) (hb : b.length ≤ 1000) (hm : ts.length + 2 ≤ 8 * b.length) (h256 : ∀ t ∈ ts, t.t < 256) (hc : c = 0 → r = []) (hr : r.length ≤ 90000000) (hH : BvHp c L K b cb tb H [] r) :
    ∃ code, ((Tryd.f5.body).bind (codeAt [1, 1, 1, 1, 1, 1, 1, 1, 1, 1, 1, 1, 0, 1])) = some code ∧
      Tells (Or2 (fun fr H => ∃ a r', a.length = ts.length ∧ fr = bvFr e ts L K ts.length ++ [(105, .bool false)] ∧ rbF (fun i => bitB b (i + 2)) ts ts.length 0 [] r = (a, r', 0) ∧ BvHp c L K b cb tb H a r') (fun out => out.ex = .ret ∧ ∃ er, er ≠ 0 ∧ rbF (fun i => bitB b (i + 2)) ts ts.length 0 [] r = ([], [], er) ∧ ytQ ([], er) out.fr out.H))
       X (evT X) 5 0 code (bvFr e ts L K 0) H := by
  refine ⟨_, rfl, ?_⟩
  apply Tells.blockOr
  refine Tells.loopP (fun k fr H => ∃ a r', k = ts.length - a.length ∧ a.length ≤ ts.length ∧ fr = bvFr e ts L K a.length ∧ r'.length ≤ r.length ∧ rbF (fun i => bitB b (i + 2)) ts ts.length 0 [] r = rbF (fun i => bitB b (i + 2)) ts (ts.length - a.length) a.length a r' ∧ BvHp c L K b cb tb H a r') ?_ (k := ts.length) ⟨[], r, by simp, by simp, rfl, by simp, by simp, hH⟩
  rintro k fr H ⟨a, r', rfl, ha, rfl, hr', hX, hH⟩
  by_cases hin : a.length = ts.length
  · refine Tells.of (o := ⟨.exit 7, bvFr e ts L K ts.length ++ [(105, .bool false)], H⟩) ⟨0, ?_⟩ (.inr ⟨by simp, .inl ⟨rfl, a, r', hin, rfl, by rw [hX, hin, Nat.sub_self]; rfl, hH⟩⟩)
    rw [hin]
    unfold bvFr tyA t12
    generalize ts.map Ty.pay = T at *
    simp (maxSteps := 2000000) -implicitDefEqProofs [-getElem?_pos, List.getElem?_cons_zero, List.getElem?_cons_succ, go_sem, eqV, plen, loadV, storeV]
  have hlt : a.length < ts.length := by omega
  have hiI : ((a.length : Nat) : Int) < (ts.length : Int) := by omega
  obtain ⟨t, htt⟩ : ∃ p, ts[a.length]? = some p := ⟨_, List.getElem?_eq_getElem hlt⟩
  apply Tells.seq (fr' := bvFr e ts L K a.length ++ [(105, .bool true)]) (H' := H)
  · unfold bvFr tyA t12
    generalize ts.map Ty.pay = T at *
    generalize a.length = i at *
    (refine ⟨0, ?_⟩; simp (maxSteps := 2000000) -implicitDefEqProofs [-getElem?_pos, List.getElem?_cons_zero, List.getElem?_cons_succ, go_sem, eqV, plen, loadV, storeV, hiI])
  apply Tells.seq (fr' := bvFr e ts L K a.length ++ [(105, .bool true)]) (H' := H)
  · refine condT (by simp [evalO, getF, bvFr]) ?_
    exact ⟨0, rfl⟩
  have hs : ts.length - a.length = (ts.length - (a.length + 1)) + 1 := by omega
  apply Tells.or (P := fun fr H' => ∃ r2 v, fr = bvFz e ts L K a.length ∧ r2.length ≤ r'.length ∧ (∀ k, rbF (fun i => bitB b (i + 2)) ts (k + 1) a.length a r' = rbF (fun i => bitB b (i + 2)) ts k (a.length + 1) (a ++ [v]) r2) ∧ BvHp c L K b cb tb H' (a ++ [v]) r2)
  · refine (piece (bv_round c e ts L K b cb tb a r' t H hn hb hm htt (h256 t (List.mem_of_getElem? htt)) (fun h => List.eq_nil_of_length_eq_zero (by have := hc h; subst this; simpa using hr')) (by omega) hH) _ rfl).mono ?_
    rintro o (h | ⟨h1, h2, er, he, h3, h4⟩)
    · exact .inl h
    · exact .inr ⟨h1, .inr ⟨h1, .inr ⟨h2, h2, er, he, by rw [hX, hs, h3], h4⟩⟩⟩
  rintro fr H' ⟨r2, v, rfl, h1, h2, h3⟩
  have w1 : IntKind.i64.wrap (((a.length : Nat) : Int) + 1) = ((a.length + 1 : Nat) : Int) := by rw [wrap_i64 (by omega) (by omega)]; omega
  refine Tells.of (o := ⟨.normal, bvFr e ts L K (a.length + 1), H'⟩) ⟨0, ?_⟩ (.inl ⟨rfl, ts.length - (a.length + 1), by omega, a ++ [v], r2, by simp, by simp; omega, by simp, by omega, by rw [hX, hs, h2]; simp, h3⟩)
  unfold bvFr bvFz tyA t12
  generalize ts.map Ty.pay = T at *
  generalize a.length = i at *
  simp (maxSteps := 2000000) -implicitDefEqProofs [-getElem?_pos, List.getElem?_cons_zero, List.getElem?_cons_succ, go_sem, eqV, plen, loadV, storeV, w1]

end

end Go.Proofs.YtafdnpcamepbmaaDoor

/- Walks: a binary row read: whole. -/
namespace Go.Proofs.YtafdnpcamepbmaaDoor
open Go.AM
set_option linter.unusedSimpArgs false
set_option linter.unusedVariables false

section
variable (c e : Nat) (ts : List Ty)

set_option maxRecDepth 100000 in
set_option maxHeartbeats 8000000 in
/-- behind the bits -/
theorem br_tail (b r : List UInt8) (L cb tb : Nat) (H : AM.Heap) (hn : ts.length ≤ 4096) (hb : b.length = (ts.length + 9) / 8) (h256 : ∀ t ∈ ts, t.t < 256) (hc : c = 0 → r = []) (hr : r.length ≤ 90000000) (h0 : H[0]? = some (some (roB c (.pb r) 1 1))) (hL : ∃ tg, H[L]? = some (some (roB cb (.pb b) tb tg))) (l0 : 0 < L) :
    ∃ code, ((Tryd.f5.body).bind (codeAt [1, 1, 1, 1, 1, 1, 1, 1])) = some code ∧
      Tells (Rets (ytQ (rdBm b r ts))) X (evT X) 5 0 code [(1, tyA e ts), (2, .ptr 0 0 0 0), (10, .int .i64 0), (11, .ptr L 0 0 0), (60, .bool false)] H := by
  refine ⟨_, rfl, ?_⟩
  obtain ⟨tg, hL⟩ := hL
  have hTl : (ts.map Ty.pay).length = ts.length := List.length_map _
  apply Tells.seq (fr' := [(1, tyA e ts), (2, .ptr 0 0 0 0), (11, .ptr L 0 0 0), (12, t12 L)]) (H' := H)
  · unfold tyA t12
    generalize ts.map Ty.pay = T at *
    (refine ⟨0, ?_⟩; simp (maxSteps := 2000000) -implicitDefEqProofs [-getElem?_pos, List.getElem?_cons_zero, List.getElem?_cons_succ, go_sem, eqV, plen, loadV, storeV, assignV, scalars, scalar])
  have w8 : IntKind.i64.wrap (8 * (b.length : Int)) = ((8 * b.length : Nat) : Int) := by rw [wrap_i64 (by omega) (by omega)]; omega
  apply Tells.assoc
  apply Tells.seq (fr' := zbFr e ts L b 0) (H' := H)
  · unfold zbFr tyA t12
    generalize ts.map Ty.pay = T at *
    generalize 8 * b.length = m8 at *
    (refine ⟨0, ?_⟩; simp (maxSteps := 2000000) -implicitDefEqProofs [-getElem?_pos, List.getElem?_cons_zero, List.getElem?_cons_succ, go_sem, eqV, plen, loadV, storeV, hL, roB, w8])
  apply Tells.or (P := fun fr H => (List.range (8 * b.length)).any (bzB b ts.length) = false ∧ fr = zbFr e ts L b (8 * b.length) ++ [(67, .bool false)] ∧ zbHp L b cb tb (roB c (.pb r) 1 1) H)
  · refine (piece (zb_loop e ts L b cb tb _ H hn (by omega) ⟨h0, l0, tg, hL⟩) _ rfl).mono ?_
    rintro out (h | ⟨q1, q2, q3, q4⟩)
    · exact .inl h
    · refine .inr ⟨q1, q2, ?_⟩
      rw [show rdBm b r ts = ([], 5) by unfold rdBm; rw [if_pos q3]]
      exact q4
  rintro fr H ⟨hz, rfl, hH⟩
  apply Tells.assoc
  apply Tells.seq (fr' := nzFr e ts L 0) (H' := H)
  · unfold zbFr nzFr tyA t12
    generalize ts.map Ty.pay = T at *
    generalize 8 * b.length = m8 at *
    (refine ⟨0, ?_⟩; simp (maxSteps := 2000000) -implicitDefEqProofs [-getElem?_pos, List.getElem?_cons_zero, List.getElem?_cons_succ, go_sem, eqV, plen, loadV, storeV, hTl])
  apply Tells.or (P := fun fr H => (List.range ts.length).any (nzB b ts) = false ∧ fr = nzFr e ts L ts.length ++ [(87, .bool false)] ∧ zbHp L b cb tb (roB c (.pb r) 1 1) H)
  · refine (piece (nz_loop e ts L b cb tb _ H hn (by omega) (by omega) h256 hH) _ rfl).mono ?_
    rintro out (h | ⟨q1, q2, q3, q4⟩)
    · exact .inl h
    · refine .inr ⟨q1, q2, ?_⟩
      rw [show rdBm b r ts = ([], 5) by unfold rdBm; rw [if_neg (by rw [hz]; simp), if_pos q3]]
      exact q4
  rintro fr H ⟨hz2, rfl, g0, _, tg2, gL⟩
  have hrb : rdBm b r ts = rwZ (rbF (fun i => bitB b (i + 2)) ts ts.length 0 [] r) := by unfold rdBm; rw [if_neg (by rw [hz]; simp), if_neg (by rw [hz2]; simp)]
  rw [hrb]
  have gLl := at_lt gL
  apply Tells.seq (fr' := [(1, tyA e ts), (2, .ptr 0 0 0 0), (12, t12 L), (16, .sl H.length 0 0 0)]) (H' := H ++ [some nilV])
  · unfold nzFr tyA t12
    generalize ts.map Ty.pay = T at *
    (refine ⟨0, ?_⟩; simp (maxSteps := 2000000) -implicitDefEqProofs [-getElem?_pos, List.getElem?_cons_zero, List.getElem?_cons_succ, go_sem, eqV, plen, loadV, storeV, assignV, emV])
  apply Tells.assoc
  apply Tells.seq (fr' := bvFr e ts L H.length 0) (H' := H ++ [some nilV])
  · unfold bvFr tyA t12
    generalize ts.map Ty.pay = T at *
    (refine ⟨0, ?_⟩; simp (maxSteps := 2000000) -implicitDefEqProofs [-getElem?_pos, List.getElem?_cons_zero, List.getElem?_cons_succ, go_sem, eqV, plen, loadV, storeV, hTl])
  have hB : BvHp c L H.length b cb tb (H ++ [some nilV]) [] r := ⟨at_cat g0, ⟨tg2, at_cat gL⟩, ⟨nilV, by simp, nilV_rw⟩, l0, by omega, by omega⟩
  apply Tells.or (P := fun fr H' => ∃ a r', a.length = ts.length ∧ fr = bvFr e ts L H.length ts.length ++ [(105, .bool false)] ∧ rbF (fun i => bitB b (i + 2)) ts ts.length 0 [] r = (a, r', 0) ∧ BvHp c L H.length b cb tb H' a r')
  · refine (piece (bv_loop c e ts L H.length b cb tb r _ hn (by omega) (by omega) h256 hc hr hB) _ rfl).mono ?_
    rintro out (h | ⟨q1, q2, er, he, q3, q4⟩)
    · exact .inl h
    · refine .inr ⟨q1, q2, ?_⟩
      rw [q3, show rwZ ([], [], er) = ([], er) by unfold rwZ; rw [if_pos he]]
      exact q4
  rintro fr H' ⟨a, r', ha, rfl, hX, hH'⟩
  rw [hX]
  have k0 := hH'.h0
  obtain ⟨ob, k1, hw⟩ := hH'.hk
  generalize H.length = K at *
  cases r' with
  | cons y r' =>
    have hp : (0 : Int) < ((r'.length + 1 : Nat) : Int) := by omega
    have hp2 : (0 : Int) < (r'.length : Int) + 1 := by omega
    rw [show rwZ (a, y :: r', 0) = ([], 5) by unfold rwZ; simp]
    refine Tells.of (o := ⟨.ret, [(4, .sl H'.length 0 0 0), (5, .int .i64 5)], H' ++ [some nilV]⟩) ?_ ⟨rfl, H'.length, 0, nilV, rfl, rfl, by simp, nilV_rw⟩
    apply Run.seq_out (hne := by simp)
    unfold bvFr tyA t12
    generalize ts.map Ty.pay = T at *
    refine ⟨0, ?_⟩
    simp (maxSteps := 2000000) -implicitDefEqProofs [-getElem?_pos, List.getElem?_cons_zero, List.getElem?_cons_succ, go_sem, eqV, plen, loadV, storeV, k0, roB, hp, hp2, assignV, emV]
  | nil =>
    rw [show rwZ (a, [], 0) = (a, 0) by unfold rwZ; simp]
    refine Tells.of (o := ⟨.ret, [(4, .sl K 0 ts.length ts.length), (5, .int .i64 0)], H'⟩) ⟨0, ?_⟩ ⟨rfl, K, ts.length, ob, by simp [getF, ha], rfl, k1, by rw [← ha]; exact hw⟩
    unfold bvFr tyA t12
    generalize ts.map Ty.pay = T at *
    simp (maxSteps := 2000000) -implicitDefEqProofs [-getElem?_pos, List.getElem?_cons_zero, List.getElem?_cons_succ, go_sem, eqV, plen, loadV, storeV, k0, roB, assignV]

/-- behind the first byte -/
def brF1 (v : AV) (er : Int) (tl : AM.Frame) : AM.Frame := [(1, tyA e ts), (2, .ptr 0 0 0 0), (8, .fn 14 [.ptr 0 0 0 0]), (9, v), (10, .int .i64 er)] ++ tl

set_option maxRecDepth 100000 in
set_option maxHeartbeats 8000000 in
/-- the first byte, the bits -/
theorem br_head (b : List UInt8) (H : AM.Heap) (hn : ts.length ≤ 4096) (h256 : ∀ t ∈ ts, t.t < 256) (hc : c = 0 → b = []) (hr : b.length ≤ 90000000) (h0 : H[0]? = some (some (roB c (.pb b) 1 0))) (hk : ts.any noK = false) :
    ∃ code, ((Tryd.f5.body).bind (codeAt [1, 1, 1])) = some code ∧
      Tells (Rets (ytQ (rdBin b ts))) X (evT X) 5 0 code (kdFr e ts ts.length ++ [(28, .bool false)]) H := by
  refine ⟨_, rfl, ?_⟩
  have hTl : (ts.map Ty.pay).length = ts.length := List.length_map _
  apply Tells.seq (fr' := [(1, tyA e ts), (2, .ptr 0 0 0 0), (8, .fn 14 [.ptr 0 0 0 0])]) (H' := H)
  · unfold kdFr tyA
    generalize ts.map Ty.pay = T at *
    (refine ⟨0, ?_⟩; simp (maxSteps := 2000000) -implicitDefEqProofs [-getElem?_pos, List.getElem?_cons_zero, List.getElem?_cons_succ, go_sem, eqV, plen, loadV, storeV, assignV, scalars, scalar])
  have hkk : ¬ (ts.any fun t => decide (kindN t.t t.u < 0)) = true := by
    have : (ts.any fun t => decide (kindN t.t t.u < 0)) = false := hk
    rw [this]; simp
  have hrd0 : rdBin [] ts = ([], 4) := by unfold rdBin; rw [if_neg (by omega), if_neg hkk]
  have hrd1 : ∀ y r, rdBin (y :: r) ts = if y ≠ 0 then ([], 5) else if r.length < (ts.length + 9) / 8 then ([], 4) else rdBm (r.take ((ts.length + 9) / 8)) (r.drop ((ts.length + 9) / 8)) ts := by
    intro y r; unfold rdBin; rw [if_neg (by omega), if_neg hkk]
  match b, hc, hr, h0 with
  | [], hc, hr, h0 =>
    rw [hrd0]
    obtain ⟨ob, hA⟩ := take_ev' (N := 1) (n := 1) rfl h0 (by simp)
    refine Tells.of (o := ⟨.ret, [(4, .sl (H.length + 1) 0 0 0), (5, .int .i64 4)], upd H 0 (some (roB c (.pb []) 1 1)) ++ [some ob] ++ [some nilV]⟩) ?_ ⟨rfl, H.length + 1, 0, nilV, rfl, rfl, by rw [show H.length + 1 = (upd H 0 (some (roB c (.pb []) 1 1)) ++ [some ob]).length by simp [upd]]; simp, nilV_rw⟩
    have hul : (upd H 0 (some (roB c (.pb []) 1 1))).length = H.length := by simp [upd]
    generalize upd H 0 (some (roB c (.pb []) 1 1)) = HU at *
    apply Run.seq (fr' := brF1 e ts (.sl H.length 0 0 0) 4 []) (H' := HU ++ [some ob])
    · unfold brF1 tyA
      generalize ts.map Ty.pay = T at *
      (refine ⟨0, ?_⟩; simp (maxSteps := 2000000) -implicitDefEqProofs [-getElem?_pos, List.getElem?_cons_zero, List.getElem?_cons_succ, go_sem, eqV, plen, loadV, storeV, hA, assignV])
    apply Run.seq_out (hne := by simp)
    unfold brF1 tyA
    generalize ts.map Ty.pay = T at *
    refine ⟨0, ?_⟩
    simp (maxSteps := 2000000) -implicitDefEqProofs [-getElem?_pos, List.getElem?_cons_zero, List.getElem?_cons_succ, go_sem, eqV, plen, loadV, storeV, hul, assignV, emV]
  | y :: r, hc, hr, h0 =>
    rw [hrd1]
    have hA := take_ev (N := 1) (n := 1) rfl h0 hc (by simp) hr
    have c0 : c ≠ 0 := fun h => by have := hc h; simp at this
    rw [show c2 c = 2 by unfold c2; rw [if_neg c0]] at hA
    simp only [List.take_succ_cons, List.take_zero, List.drop_succ_cons, List.drop_zero] at hA
    have g0 : (upd H 0 (some (roB c (.pb r) 1 1)))[0]? = some (some (roB c (.pb r) 1 1)) := at_set h0
    generalize upd H 0 (some (roB c (.pb r) 1 1)) = HU at *
    apply Tells.seq (fr' := brF1 e ts (.ro 2 (.pb [y]) 1) 0 []) (H' := HU)
    · unfold brF1 tyA
      generalize ts.map Ty.pay = T at *
      (refine ⟨0, ?_⟩; simp (maxSteps := 2000000) -implicitDefEqProofs [-getElem?_pos, List.getElem?_cons_zero, List.getElem?_cons_succ, go_sem, eqV, plen, loadV, storeV, hA, assignV])
    by_cases hy : y = 0
    · subst hy
      simp only [ne_eq, not_true_eq_false, if_false]
      apply Tells.seq (fr' := [(1, tyA e ts), (2, .ptr 0 0 0 0), (8, .fn 14 [.ptr 0 0 0 0]), (45, .bool false)]) (H' := HU)
      · unfold brF1 tyA
        generalize ts.map Ty.pay = T at *
        (refine ⟨0, ?_⟩; simp (maxSteps := 2000000) -implicitDefEqProofs [-getElem?_pos, List.getElem?_cons_zero, List.getElem?_cons_succ, go_sem, eqV, plen, loadV, storeV, assignV])
      have w7 : IntKind.i64.wrap ((ts.length : Int) + 9) = ((ts.length + 9 : Nat) : Int) := by rw [wrap_i64 (by omega) (by omega)]; omega
      have w8 : IntKind.i64.wrap (((ts.length + 9 : Nat) : Int) / 8) = (((ts.length + 9) / 8 : Nat) : Int) := by
        rw [wrap_i64 (by omega) (by omega)]; omega
      have hm : (ts.length + 9) / 8 ≤ 1000 := by omega
      generalize hn7 : ts.length + 9 = n7 at *
      generalize hm8 : n7 / 8 = m8 at *
      by_cases hl : r.length < m8
      · rw [if_pos hl]
        obtain ⟨ob, hB⟩ := take_ev' (N := (m8 : Nat)) (n := m8) rfl g0 hl
        refine Tells.of (o := ⟨.ret, [(4, .sl (HU.length + 2) 0 0 0), (5, .int .i64 4)], upd HU 0 (some (roB c (.pb r) 1 1)) ++ [some ob] ++ [some ⟨.pc [.sl HU.length 0 0 0], 0, some 1, 1, false, true, 0⟩] ++ [some nilV]⟩) ?_ ⟨rfl, HU.length + 2, 0, nilV, rfl, rfl, by rw [show HU.length + 2 = (upd HU 0 (some (roB c (.pb r) 1 1)) ++ [some ob] ++ [some (⟨.pc [.sl HU.length 0 0 0], 0, some 1, 1, false, true, 0⟩ : AM.Obj)]).length by simp [upd]]; simp, nilV_rw⟩
        have hul : (upd HU 0 (some (roB c (.pb r) 1 1))).length = HU.length := by simp [upd]
        have hnew : ∀ x : Option AM.Obj, (upd HU 0 (some (roB c (.pb r) 1 1)) ++ [some ob, x])[HU.length + 1]? = some x := fun x => by rw [← hul, List.getElem?_append_right (by omega)]; simp
        have hset : ∀ x y : Option AM.Obj, (upd HU 0 (some (roB c (.pb r) 1 1)) ++ [some ob, x]).set (HU.length + 1) y = upd HU 0 (some (roB c (.pb r) 1 1)) ++ [some ob, y] := fun x y => by rw [← hul, List.set_append_right _ _ (by omega)]; simp
        generalize upd HU 0 (some (roB c (.pb r) 1 1)) = HV at *
        apply Run.seq (fr' := [(1, tyA e ts), (2, .ptr 0 0 0 0), (10, .int .i64 4), (11, .ptr (HU.length + 1) 0 0 0)]) (H' := HV ++ [some ob] ++ [some ⟨.pc [.sl HU.length 0 0 0], 0, some 1, 1, false, true, 0⟩])
        · unfold tyA
          generalize ts.map Ty.pay = T at *
          (refine ⟨0, ?_⟩; simp (maxSteps := 2000000) -implicitDefEqProofs [-getElem?_pos, List.getElem?_cons_zero, List.getElem?_cons_succ, go_sem, eqV, plen, loadV, storeV, hTl, w7, w8, hB, hul, hnew, hset, splice, scalars, scalar, flatCells, assignV])
        apply Run.seq_out (hne := by simp)
        unfold tyA
        generalize ts.map Ty.pay = T at *
        refine ⟨0, ?_⟩
        simp (maxSteps := 2000000) -implicitDefEqProofs [-getElem?_pos, List.getElem?_cons_zero, List.getElem?_cons_succ, go_sem, eqV, plen, loadV, storeV, hul, assignV, emV]
      · rw [if_neg hl]
        have hB := take_ev (N := (m8 : Nat)) (n := m8) rfl g0 (fun h => absurd h c0) (by omega) (by rw [List.length_cons] at hr; omega)
        rw [show c2 c = 2 by unfold c2; rw [if_neg c0]] at hB
        have k0 : (upd HU 0 (some (roB c (.pb (r.drop m8)) 1 1)))[0]? = some (some (roB c (.pb (r.drop m8)) 1 1)) := at_set g0
        have hul : (upd HU 0 (some (roB c (.pb (r.drop m8)) 1 1))).length = HU.length := by simp [upd]
        have hnew : ∀ x : Option AM.Obj, (upd HU 0 (some (roB c (.pb (r.drop m8)) 1 1)) ++ [x])[HU.length]? = some x := fun x => by rw [← hul]; simp
        have hpos := at_lt g0
        generalize upd HU 0 (some (roB c (.pb (r.drop m8)) 1 1)) = HV at *
        apply Tells.seq (fr' := [(1, tyA e ts), (2, .ptr 0 0 0 0), (10, .int .i64 0), (11, .ptr HU.length 0 0 0)]) (H' := HV ++ [some (roB 2 (.pb (r.take m8)) 1 0)])
        · unfold tyA
          generalize ts.map Ty.pay = T at *
          (refine ⟨0, ?_⟩; simp (maxSteps := 2000000) -implicitDefEqProofs [-getElem?_pos, List.getElem?_cons_zero, List.getElem?_cons_succ, go_sem, eqV, plen, loadV, storeV, hTl, w7, w8, hB, hul, hnew, roB, splice, scalars, scalar, flatCells, assignV])
        apply Tells.seq (fr' := [(1, tyA e ts), (2, .ptr 0 0 0 0), (10, .int .i64 0), (11, .ptr HU.length 0 0 0), (60, .bool false)]) (H' := HV ++ [some (roB 2 (.pb (r.take m8)) 1 0)])
        · apply Run.seq (fr' := [(1, tyA e ts), (2, .ptr 0 0 0 0), (10, .int .i64 0), (11, .ptr HU.length 0 0 0), (60, .bool false)]) (H' := HV ++ [some (roB 2 (.pb (r.take m8)) 1 0)])
          · unfold tyA
            generalize ts.map Ty.pay = T at *
            (refine ⟨0, ?_⟩; simp (maxSteps := 2000000) -implicitDefEqProofs [-getElem?_pos, List.getElem?_cons_zero, List.getElem?_cons_succ, go_sem, eqV, plen, loadV, storeV])
          · exact condF (by simp [evalO, getF]) ⟨0, rfl⟩
        exact piece (br_tail c e ts (r.take m8) (r.drop m8) HU.length 2 1 (HV ++ [some (roB 2 (.pb (r.take m8)) 1 0)]) hn (by rw [List.length_take]; omega) h256 (fun h => absurd h c0) (by rw [List.length_drop]; rw [List.length_cons] at hr; omega) (at_cat k0) ⟨0, hnew _⟩ hpos) _ rfl
    · have hyb : ((y.toNat : Int) != 0) = true := by
        have : y.toNat ≠ 0 := fun h => hy (UInt8.toNat.inj (by rw [h]; rfl))
        simp; omega
      rw [if_pos hy]
      refine Tells.of (o := ⟨.ret, [(4, .sl HU.length 0 0 0), (5, .int .i64 5)], HU ++ [some nilV]⟩) ?_ ⟨rfl, HU.length, 0, nilV, rfl, rfl, by simp, nilV_rw⟩
      apply Run.seq_out (hne := by simp)
      unfold brF1 tyA
      generalize ts.map Ty.pay = T at *
      refine ⟨0, ?_⟩
      simp (maxSteps := 2000000) -implicitDefEqProofs [-getElem?_pos, List.getElem?_cons_zero, List.getElem?_cons_succ, go_sem, eqV, plen, loadV, storeV, hyb, assignV, emV]

end

end Go.Proofs.YtafdnpcamepbmaaDoor

/- Walks: a binary row read: its event. -/
namespace Go.Proofs.YtafdnpcamepbmaaDoor
open Go.AM
set_option linter.unusedSimpArgs false
set_option linter.unusedVariables false

section
variable (c e : Nat) (ts : List Ty)

set_option maxRecDepth 100000 in
set_option maxHeartbeats 4000000 in
theorem brd_code (b : List UInt8) (hc : c = 0 → b = []) (hb : b.length ≤ 90000000) (h256 : ∀ t ∈ ts, t.t < 256) : ∃ code, Tryd.f5.body = some code ∧
    Tells (Rets (ytQ (rdBin b ts))) X (evT X) 5 0 code [(0, .ro c (.pb b) 1), (1, .ro e (.pr 2 (ts.map Ty.pay)) 2)] [] := by
  refine ⟨_, rfl, ?_⟩
  have hTl : (ts.map Ty.pay).length = ts.length := List.length_map _
  apply Tells.seq (fr' := [(1, tyA e ts), (2, .ptr 0 0 0 0)]) (H' := [some (roB c (.pb b) 1 0), some nilV])
  · unfold tyA
    generalize ts.map Ty.pay = T at *
    (refine ⟨0, ?_⟩; simp (maxSteps := 2000000) -implicitDefEqProofs [-getElem?_pos, List.getElem?_cons_zero, List.getElem?_cons_succ, go_sem, eqV, plen, loadV, storeV, assignV, emV, roB])
  by_cases h5 : 4096 < ts.length
  · rw [show rdBin b ts = ([], 3) by unfold rdBin; rw [if_pos h5]]
    refine Tells.of (o := ⟨.ret, [(4, .sl 2 0 0 0), (5, .int .i64 3)], [some (roB c (.pb b) 1 0), some nilV, some nilV]⟩) ?_ ⟨rfl, 2, 0, nilV, rfl, rfl, rfl, nilV_rw⟩
    apply Run.seq_out (hne := by simp)
    have h5i : (4096 : Int) < (ts.length : Int) := by omega
    unfold tyA
    generalize ts.map Ty.pay = T at *
    refine ⟨0, ?_⟩
    simp (maxSteps := 2000000) -implicitDefEqProofs [-getElem?_pos, List.getElem?_cons_zero, List.getElem?_cons_succ, go_sem, eqV, plen, loadV, storeV, assignV, emV, h5i, hTl]
  have h5i : ¬ (4096 : Int) < (ts.length : Int) := by omega
  apply Tells.seq (fr' := [(1, tyA e ts), (2, .ptr 0 0 0 0), (24, .bool false)]) (H' := [some (roB c (.pb b) 1 0), some nilV])
  · unfold tyA
    generalize ts.map Ty.pay = T at *
    (refine ⟨0, ?_⟩; simp (maxSteps := 2000000) -implicitDefEqProofs [-getElem?_pos, List.getElem?_cons_zero, List.getElem?_cons_succ, go_sem, eqV, plen, loadV, storeV, h5i, hTl])
  apply Tells.assoc
  apply Tells.seq (fr' := kdFr e ts 0) (H' := [some (roB c (.pb b) 1 0), some nilV])
  · unfold kdFr tyA
    generalize ts.map Ty.pay = T at *
    (refine ⟨0, ?_⟩; simp (maxSteps := 2000000) -implicitDefEqProofs [-getElem?_pos, List.getElem?_cons_zero, List.getElem?_cons_succ, go_sem, eqV, plen, loadV, storeV, hTl])
  apply Tells.or (P := fun fr H => ts.any noK = false ∧ fr = kdFr e ts ts.length ++ [(28, .bool false)] ∧ H[0]? = some (some (roB c (.pb b) 1 0)))
  · refine (piece (kd_loop e ts (roB c (.pb b) 1 0) [some (roB c (.pb b) 1 0), some nilV] rfl (by omega) h256) _ rfl).mono ?_
    rintro out (h | ⟨q1, q2, q3, q4⟩)
    · exact .inl h
    · refine .inr ⟨q1, q2, ?_⟩
      rw [show rdBin b ts = ([], 2) by
        unfold rdBin
        rw [if_neg h5, if_pos (show (ts.any fun t => decide (kindN t.t t.u < 0)) = true from q3)]]
      exact q4
  rintro fr H ⟨hk, rfl, h0⟩
  exact piece (br_head c e ts b H (by omega) h256 hc hb h0 hk) _ rfl

end

theorem brd_ev {H : AM.Heap} {a A : AV} {b : List UInt8} {ts : List Ty} (h : Byt H a b) (hA : RoT H A ts) (hb : b.length ≤ 90000000) (h256 : ∀ t ∈ ts, t.t < 256) :
    ∃ ob, Rw (.pr 12 ((rdBin b ts).1.map Va.pay)) 0 ob ∧ evT X 5 [a, A] H = some (.tup [.sl H.length 0 (rdBin b ts).1.length 0, .int .i64 (rdBin b ts).2], H ++ [some ob]) := by
  obtain ⟨e, pt, xt, hpt, he, hxt⟩ := args_t (f := 5) (i := 1) rfl hA (args_nil 2)
  obtain ⟨c, p, xl, hp, hc, hx'⟩ := args_byt (C := X) (f := 5) (i := 0) rfl h hxt
  obtain ⟨code, hcode, hr⟩ := brd_code c e ts b hc hb h256
  have hid := va_tags (rdBin b ts).1
  obtain ⟨ob, q1, q2⟩ := Ev1.newR (H := H) (n := (rdBin b ts).1.length) (es := 12) (l := (rdBin b ts).1.map Va.pay) (rest := [.int .i64 (rdBin b ts).2]) (evT_below X) Tryd.func5 hcode hx' (by simp [idsL, ids, hp.ids, hpt.ids]) (by simp [gtag]) rfl rfl rfl hid.1 hid.2 (by
    obtain ⟨o, ⟨he, o1, g1, ob, q1, q2, q4, q5⟩, hrun⟩ := hr
    exact ⟨o, ⟨he, o1, g1, ob, by show some [getF o.fr 4, getF o.fr 5] = _; rw [q1, q2], q4, q5⟩, by rw [par5, coB hp, coT hpt, coerce_nil]; exact hrun⟩)
  exact ⟨ob, q1, evT_eq q2⟩

end Go.Proofs.YtafdnpcamepbmaaDoor

/- Walks: a text row written. -/
namespace Go.Proofs.YtafdnpcamepbmaaDoor
open Go.AM
set_option linter.unusedSimpArgs false
set_option linter.unusedVariables false

def tcFr (A L : AV) (n i : Nat) : AM.Frame := [(0, A), (1, L), (14, L), (15, .int .i64 (n : Nat)), (16, .int .i64 (i : Nat))]

section
variable (c : Nat) (b : List UInt8) (d : Nat) (l : List Va)

/-- a round's frame -/
def twFr (i o g : Nat) : AM.Frame := [(8, .sl o 0 (b ++ txR (l.take i)).length g), (27, .ro d (.pr 12 (l.map Va.pay)) 2), (28, .int .i64 (l.length : Nat)), (29, .int .i64 (i : Nat))]

set_option maxRecDepth 100000 in
set_option maxHeartbeats 4000000 in
theorem tw_round (i o g : Nat) (v : Va) (ob : AM.Obj) (H : AM.Heap) (hn : l.length ≤ 4096) (hp : l[i]? = some v) (hb : b.length ≤ 2000000) (hT : (txR l).length ≤ 1000000) (hs : v.t.length ≤ 16777216) (ho : H[o]? = some (some ob)) (hw : Rw (.pb (b ++ txR (l.take i))) g ob) :
    ∃ code, ((Tryd.f18.body).bind (codeAt [1, 1, 1, 1, 0, 1, 0, 0, 1, 1])) = some code ∧
      Tells (Goes fun fr H' => ∃ o' g' ob', fr = twFr b d l (i + 1) o' g' ∧ H'[o']? = some (some ob') ∧ Rw (.pb (b ++ txR (l.take (i + 1)))) g' ob') X (evT X) 18 0 code (twFr b d l i o g ++ [(30, .bool true)]) H := by
  refine ⟨_, rfl, ?_⟩
  have hlt := at_lt hp
  have hLl : (l.map Va.pay).length = l.length := List.length_map _
  have hrow : (l.map Va.pay)[i]? = some v.pay := by rw [List.getElem?_map, hp]; rfl
  have hiI : (i : Int) < (l.length : Int) := by omega
  have hcat := txR_take hp
  have hle := txR_le l i
  have w1 : IntKind.i64.wrap ((i : Int) + 1) = ((i + 1 : Nat) : Int) := by rw [wrap_i64 (by omega) (by omega)]; omega
  have hnew : ∀ x : Option AM.Obj, (H ++ [x])[H.length]? = some x := fun x => by simp
  by_cases hk : v.k = 0
  · have ht : txV v = [251] := if_pos hk
    rw [ht] at hcat
    obtain ⟨ob1, hw1, hA⟩ := app_b (H := H ++ [some (vaO v)]) (o := o) (m := [251]) (src := .ro 1 (.pb [251]) 0) (at_cat ho) hw (.inl rfl) (by simp; omega)
    have hbs := fun H => bsK H 251 251 rfl
    rw [List.append_assoc, ← hcat] at hw1
    have hl1 : (b ++ txR (l.take (i + 1))).length = (b ++ txR (l.take i)).length + 1 := by rw [hcat]; simp; omega
    refine Tells.of (o := ⟨.normal, twFr b d l (i + 1) o (g + 1), upd (H ++ [some (vaO v)]) o (some ob1)⟩) ⟨0, ?_⟩ ⟨rfl, o, g + 1, ob1, rfl, at_set (at_cat ho), hw1⟩
    unfold twFr
    rw [hl1]
    simp only [List.length_cons, List.length_nil, Nat.zero_add] at hA
    generalize (b ++ txR (l.take i)).length = n at *
    generalize l.map Va.pay = L at *
    simp only [vaO, Va.pay] at hA hrow
    rw [hk] at hA hrow
    simp (maxSteps := 2000000) -implicitDefEqProofs [-getElem?_pos, List.getElem?_cons_zero, List.getElem?_cons_succ, go_sem, eqV, plen, loadV, storeV, hlt, hiI, hLl, hrow, vaO, Va.pay, hk, retagL, retag, retagP, flatCells, splice, scalars, scalar, hnew, mkVa, hbs, hA, w1, assignV]
  · have ht : txV v = aT v.t := if_neg hk
    rw [ht] at hcat
    have hkb : (v.k == 0) = false := by simpa using hk
    obtain ⟨ob1, hw1, hA⟩ := appendText_ev (H := H ++ [some (vaO v)]) (s := v.t) (Byt.whole (at_cat ho) hw) (by simp; omega) (by omega)
    rw [List.append_assoc, ← hcat] at hw1 hA
    refine Tells.of (o := ⟨.normal, twFr b d l (i + 1) (H.length + 1) 0, H ++ [some (vaO v)] ++ [some ob1]⟩) ⟨0, ?_⟩ ⟨rfl, H.length + 1, 0, ob1, rfl, by simp, hw1⟩
    unfold twFr
    generalize (b ++ txR (l.take i)).length = n at *
    generalize (b ++ txR (l.take (i + 1))).length = n1 at *
    generalize l.map Va.pay = L at *
    simp only [vaO, Va.pay] at hA hrow
    simp (maxSteps := 2000000) -implicitDefEqProofs [-getElem?_pos, List.getElem?_cons_zero, List.getElem?_cons_succ, go_sem, eqV, plen, loadV, storeV, hlt, hiI, hLl, hrow, vaO, Va.pay, hkb, retagL, retag, retagP, flatCells, splice, scalars, scalar, hnew, mkVa, hA, w1, assignV]

set_option maxRecDepth 100000 in
set_option maxHeartbeats 4000000 in
/-- a round: the row's check -/
theorem tc_chk (A : AV) (i : Nat) (v : Va) (H : AM.Heap) (k : Nat) (ho : v.okR) (hk : H[k]? = some (some (vaO v))) :
    ∃ code, ((Tryd.f18.body).bind (codeAt [1, 1, 0, 1, 0, 0, 1, 1, 0, 0, 1, 0])) = some code ∧ Run X (evT X) 18 0 code [(0, A), (1, .ro d (.pr 12 (l.map Va.pay)) 2), (7, .ptr k 0 0 0), (14, .ro d (.pr 12 (l.map Va.pay)) 2), (15, .int .i64 (l.length : Nat)), (16, .int .i64 (i : Nat))] H
      ⟨.normal, tcFr A (.ro d (.pr 12 (l.map Va.pay)) 2) l.length i ++ [(23, .bool (chkV v tyVS != 0))], H⟩ := by
  refine ⟨_, rfl, ?_⟩
  have hC := check_ev (v := v) (t := tyVS) (by decide) ho.1 ho.2 H
  have hX := texts_ev H
  have hlt := at_lt hk
  generalize l.map Va.pay = L at *
  generalize chkV v tyVS = ck at *
  unfold tcFr
  simp only [Va.pay, Ty.pay] at hC hX
  apply Run.dy (by simp) keep18_6 (by simp)
  · (conv => lhs; simp (maxSteps := 2000000) -implicitDefEqProofs [-getElem?_pos, List.getElem?_cons_zero, List.getElem?_cons_succ, go_sem, eqV, plen, loadV, storeV, runD, out1, markOf, freeO, quietO, pushes, isAssign, calledV, touched, mentioned, opVals, touchCall, mentionCall, idsAt, Op.operands, ids, idsL, lendArgs, lendV, lend1, lendL, eqH_self, hk, vaO, Va.pay, mkVa, mkTy, hC, hX, retagL, retag, retagP, flatCells, splice, scalars, scalar])
  · refine marksOk_of (ps := [(0, 1)]) (by kernel_rfl) ?_
    simp [bearP, bear]
  · rfl

set_option maxRecDepth 100000 in
set_option maxHeartbeats 4000000 in
theorem tc_loop (A : AV) (H : AM.Heap) (hl : ∀ v ∈ l, v.okR) (hn : l.length ≤ 4096) :
    ∃ code, ((Tryd.f18.body).bind (codeAt [1, 1, 0, 1])) = some code ∧
      Tells (Or2 (fun fr H => (∀ p ∈ l, chkV p tyVS = 0) ∧ fr = tcFr A (.ro d (.pr 12 (l.map Va.pay)) 2) l.length l.length ++ [(17, .bool false)]) (fun out => out.ex = .ret ∧ (∃ p ∈ l, chkV p tyVS ≠ 0) ∧ ∃ o, getF out.fr 4 = .sl o 0 0 0 ∧ getF out.fr 5 = .int .i64 2 ∧ out.H[o]? = some (some nilB))) X (evT X) 18 0 code (tcFr A (.ro d (.pr 12 (l.map Va.pay)) 2) l.length 0) H := by
  refine ⟨_, rfl, ?_⟩
  have hLl : (l.map Va.pay).length = l.length := List.length_map _
  apply Tells.blockOr
  refine Tells.loopP (fun k fr H => ∃ i, k = l.length - i ∧ i ≤ l.length ∧ fr = tcFr A (.ro d (.pr 12 (l.map Va.pay)) 2) l.length i ∧ ∀ j p, j < i → l[j]? = some p → chkV p tyVS = 0) ?_ (k := l.length) ⟨0, rfl, by omega, rfl, by omega⟩
  rintro k fr H ⟨i, rfl, hi, rfl, hall⟩
  by_cases hin : i = l.length
  · subst hin
    refine Tells.of (o := ⟨.exit 0, tcFr A (.ro d (.pr 12 (l.map Va.pay)) 2) l.length l.length ++ [(17, .bool false)], H⟩) ⟨0, ?_⟩ (.inr ⟨by simp, .inl ⟨rfl, fun p hp => ?_, rfl⟩⟩)
    · generalize l.map Va.pay = L at *
      simp (maxSteps := 2000000) -implicitDefEqProofs [-getElem?_pos, List.getElem?_cons_zero, List.getElem?_cons_succ, go_sem, eqV, plen, loadV, storeV, tcFr]
    · obtain ⟨j, hj, rfl⟩ := List.mem_iff_getElem.1 hp
      exact hall j _ hj (List.getElem?_eq_getElem hj)
  have hlt : i < l.length := by omega
  have hiI : (i : Int) < (l.length : Int) := by omega
  obtain ⟨v, hv⟩ : ∃ p, l[i]? = some p := ⟨_, List.getElem?_eq_getElem hlt⟩
  have hrow : (l.map Va.pay)[i]? = some v.pay := by rw [List.getElem?_map, hv]; rfl
  have hm := List.mem_of_getElem? hv
  have hnew : ∀ x : Option AM.Obj, (H ++ [x])[H.length]? = some x := fun x => by simp
  have w1 : IntKind.i64.wrap ((i : Int) + 1) = ((i + 1 : Nat) : Int) := by rw [wrap_i64 (by omega) (by omega)]; omega
  have hchk := tc_chk d l A i v (H ++ [some (vaO v)]) H.length (hl v hm) (hnew _)
  apply Tells.seq (fr' := tcFr A (.ro d (.pr 12 (l.map Va.pay)) 2) l.length i ++ [(17, .bool true)]) (H' := H)
  · generalize l.map Va.pay = L at *
    (refine ⟨0, ?_⟩; simp (maxSteps := 2000000) -implicitDefEqProofs [-getElem?_pos, List.getElem?_cons_zero, List.getElem?_cons_succ, go_sem, eqV, plen, loadV, storeV, tcFr, hiI])
  apply Tells.seq (fr' := tcFr A (.ro d (.pr 12 (l.map Va.pay)) 2) l.length i ++ [(17, .bool true)]) (H' := H)
  · refine condT (by simp [evalO, getF, tcFr]) ?_
    exact ⟨0, rfl⟩
  apply Tells.or (P := fun fr H' => chkV v tyVS = 0 ∧ fr = tcFr A (.ro d (.pr 12 (l.map Va.pay)) 2) l.length i ++ [(23, .bool false)])
  · apply Tells.blkOr
    · apply Tells.seq (fr' := [(0, A), (1, .ro d (.pr 12 (l.map Va.pay)) 2), (7, .ptr H.length 0 0 0), (14, .ro d (.pr 12 (l.map Va.pay)) 2), (15, .int .i64 (l.length : Nat)), (16, .int .i64 (i : Nat))]) (H' := H ++ [some (vaO v)])
      · generalize l.map Va.pay = L at *
        simp only [Va.pay] at hrow
        (refine ⟨0, ?_⟩; simp (maxSteps := 2000000) -implicitDefEqProofs [-getElem?_pos, List.getElem?_cons_zero, List.getElem?_cons_succ, go_sem, eqV, plen, loadV, storeV, tcFr, hlt, hLl, hrow, vaO, Va.pay, hnew, mkVa, retagL, retag, retagP, flatCells, splice, scalars, scalar])
      apply Tells.seq (piece hchk _ rfl)
      by_cases h0 : chkV v tyVS = 0
      · have h0b : (chkV v tyVS != 0) = false := by rw [h0]; rfl
        rw [h0b]
        refine Tells.condF (by simp [evalO, getF, tcFr]) ?_
        exact Tells.of (o := ⟨.normal, _, _⟩) ⟨0, rfl⟩ (.inl ⟨rfl, h0, rfl⟩)
      · have h0b : (chkV v tyVS != 0) = true := by simpa using h0
        rw [h0b]
        refine Tells.condT (by simp [evalO, getF, tcFr]) ?_
        refine Tells.of (o := ⟨.ret, [(4, .sl (H.length + 1) 0 0 0), (5, .int .i64 2)], H ++ [some (vaO v)] ++ [some nilB]⟩) ⟨0, ?_⟩ (.inr ⟨by simp, .inr ⟨by simp, .inr ⟨rfl, rfl, ⟨v, hm, h0⟩, H.length + 1, rfl, rfl, by simp⟩⟩⟩)
        generalize l.map Va.pay = L at *
        simp (maxSteps := 2000000) -implicitDefEqProofs [-getElem?_pos, List.getElem?_cons_zero, List.getElem?_cons_succ, go_sem, eqV, plen, loadV, storeV, tcFr, assignV, emB]
    · rintro o (⟨h1, _⟩ | ⟨_, ⟨h2, _⟩ | ⟨h2, _⟩⟩)
      · rw [h1]; simp
      · rw [h2]; simp
      · rw [h2]; simp
  rintro fr H' ⟨h0, rfl⟩
  refine Tells.of (o := ⟨.normal, tcFr A (.ro d (.pr 12 (l.map Va.pay)) 2) l.length (i + 1), H'⟩) ⟨0, ?_⟩ (.inl ⟨rfl, l.length - (i + 1), by omega, i + 1, rfl, by omega, rfl, fun j q hj hq => ?_⟩)
  · generalize l.map Va.pay = L at *
    simp (maxSteps := 2000000) -implicitDefEqProofs [-getElem?_pos, List.getElem?_cons_zero, List.getElem?_cons_succ, go_sem, eqV, plen, loadV, storeV, tcFr, w1]
  · by_cases hji : j = i
    · subst hji; rw [hv] at hq; obtain rfl := Option.some.inj hq
      exact h0
    · exact hall j q (by omega) hq

set_option maxRecDepth 100000 in
set_option maxHeartbeats 4000000 in
theorem tapp_code (hc : c = 0 → b = []) (hb : b.length ≤ 2000000) (hl : ∀ v ∈ l, v.okR) (hT : (txR l).length ≤ 1000000) : ∃ code, Tryd.f18.body = some code ∧
    Tells (Rets fun fr H => ∃ o g ob, getF fr 4 = .sl o 0 (txApp b l).1.length g ∧ getF fr 5 = .int .i64 (txApp b l).2 ∧ H[o]? = some (some ob) ∧ Rw (.pb (txApp b l).1) g ob) X (evT X) 18 0 code [(0, .ro c (.pb b) 1), (1, .ro d (.pr 12 (l.map Va.pay)) 2)] [] := by
  refine ⟨_, rfl, ?_⟩
  have hLat : ∀ (i : Nat) (v : Va), l[i]? = some v → (l.map Va.pay)[i]? = some v.pay := fun i p h => (by rw [List.getElem?_map, h]; rfl)
  have hLl : (l.map Va.pay).length = l.length := List.length_map _
  generalize hLm : l.map Va.pay = L at *
  apply Tells.seq (fr' := [(0, .ro c (.pb b) 1), (1, .ro d (.pr 12 L) 2)]) (H' := [some nilB])
  · (refine ⟨0, ?_⟩; simp (maxSteps := 2000000) -implicitDefEqProofs [-getElem?_pos, List.getElem?_cons_zero, List.getElem?_cons_succ, go_sem, eqV, plen, loadV, storeV, assignV, emB])
  by_cases h5 : 4096 < l.length
  · rw [show txApp b l = ([], 3) from if_pos h5]
    refine Tells.of (o := ⟨.ret, [(4, .sl 1 0 0 0), (5, .int .i64 3)], [some nilB, some nilB]⟩) ?_ ⟨rfl, 1, 0, nilB, rfl, rfl, rfl, nilB_rw⟩
    apply Run.seq_out (hne := by simp)
    have h5i : (4096 : Int) < (l.length : Int) := by omega
    refine ⟨0, ?_⟩
    simp (maxSteps := 2000000) -implicitDefEqProofs [-getElem?_pos, List.getElem?_cons_zero, List.getElem?_cons_succ, go_sem, eqV, plen, loadV, storeV, assignV, emB, h5i, hLl]
  have hbad : ∀ p ∈ l, chkV p tyVS ≠ 0 → txApp b l = ([], 2) := by
    intro p hp hb
    unfold txApp
    rw [if_neg h5, if_pos (List.any_eq_true.2 ⟨p, hp, by simpa using hb⟩)]
  have h5i : ¬ (4096 : Int) < (l.length : Int) := by omega
  apply Tells.seq (fr' := [(0, .ro c (.pb b) 1), (1, .ro d (.pr 12 L) 2), (13, .bool false)]) (H' := [some nilB])
  · (refine ⟨0, ?_⟩; simp (maxSteps := 2000000) -implicitDefEqProofs [-getElem?_pos, List.getElem?_cons_zero, List.getElem?_cons_succ, go_sem, eqV, plen, loadV, storeV, assignV, emB, h5i, hLl])
  apply Tells.assoc
  apply Tells.seq (fr' := tcFr (.ro c (.pb b) 1) (.ro d (.pr 12 L) 2) l.length 0) (H' := [some nilB])
  · (refine ⟨0, ?_⟩; simp (maxSteps := 2000000) -implicitDefEqProofs [-getElem?_pos, List.getElem?_cons_zero, List.getElem?_cons_succ, go_sem, eqV, plen, loadV, storeV, assignV, emB, tcFr, hLl])
  generalize hHH : ([some nilB] : AM.Heap) = HH
  have hmem : ∀ (i : Nat) p, l[i]? = some p → p ∈ l := fun i p h => List.mem_of_getElem? h
  rw [← hLm]
  apply Tells.or (P := fun fr H => (∀ p ∈ l, chkV p tyVS = 0) ∧ fr = tcFr (.ro c (.pb b) 1) (.ro d (.pr 12 (l.map Va.pay)) 2) l.length l.length ++ [(17, .bool false)])
  · refine (piece (tc_loop d l (.ro c (.pb b) 1) HH hl (by omega)) _ rfl).mono ?_
    rintro out (h | ⟨h1, h2, ⟨p, hp, hb⟩, o, q6, q7, q8⟩)
    · exact .inl h
    · have hbd := hbad p hp hb
      exact .inr ⟨h1, h2, o, 0, nilB, by rw [hbd]; exact q6, by rw [hbd]; exact q7, q8, by rw [hbd]; exact nilB_rw⟩
  · rintro fr H ⟨hok, rfl⟩
    rw [hLm]
    have hany : ¬ (l.any fun v => decide (chkV v tyVS ≠ 0)) = true := by
      intro h
      obtain ⟨p, hp, hb⟩ := List.any_eq_true.1 h
      rw [hok p hp] at hb; simp at hb
    have hpa : txApp b l = (b ++ txR l, 0) := by
      unfold txApp
      rw [if_neg h5, if_neg hany]
    rw [hpa]
    obtain ⟨ob0, hw0, hA0⟩ := clone_ev (H := H) (a := .ro c (.pb b) 1) (b := b) (Byt.ro (.inl rfl) hc) (by omega)
    apply Tells.seq (fr' := [(1, .ro d (.pr 12 L) 2), (8, .sl H.length 0 b.length 0)]) (H' := H ++ [some ob0])
    · (refine ⟨0, ?_⟩; simp (maxSteps := 2000000) -implicitDefEqProofs [-getElem?_pos, List.getElem?_cons_zero, List.getElem?_cons_succ, go_sem, eqV, plen, loadV, storeV, tcFr, hA0, assignV])
    apply Tells.assoc
    have hb0 : (b ++ txR (l.take 0)).length = b.length := by rw [List.take_zero]; simp [txR]
    apply Tells.seq (fr' := twFr b d l 0 H.length 0) (H' := H ++ [some ob0])
    · unfold twFr
      rw [hb0, hLm]
      (refine ⟨0, ?_⟩; simp (maxSteps := 2000000) -implicitDefEqProofs [-getElem?_pos, List.getElem?_cons_zero, List.getElem?_cons_succ, go_sem, eqV, plen, loadV, storeV, hLl])
    apply Tells.blockThen (P := fun fr H => ∃ o g ob, fr = twFr b d l l.length o g ++ [(30, .bool false)] ∧ H[o]? = some (some ob) ∧ Rw (.pb (b ++ txR l)) g ob)
    · refine Tells.loopP (fun k fr H => ∃ i o g ob, k = l.length - i ∧ i ≤ l.length ∧ fr = twFr b d l i o g ∧ H[o]? = some (some ob) ∧ Rw (.pb (b ++ txR (l.take i))) g ob) ?_ (k := l.length) ⟨0, H.length, 0, ob0, rfl, by omega, rfl, by simp, by rw [List.take_zero]; simpa [txR] using hw0⟩
      rintro k fr H ⟨i, o, g, ob, rfl, hi, rfl, ho, hw⟩
      by_cases hin : i = l.length
      · subst hin
        rw [List.take_length] at hw
        refine Tells.of (o := ⟨.exit 2, twFr b d l l.length o g ++ [(30, .bool false)], H⟩) ⟨0, ?_⟩ (.inr ⟨by simp, .inl ⟨rfl, o, g, ob, rfl, ho, hw⟩⟩)
        simp (maxSteps := 2000000) -implicitDefEqProofs [-getElem?_pos, List.getElem?_cons_zero, List.getElem?_cons_succ, go_sem, eqV, plen, loadV, storeV, twFr]
      have hiI : (i : Int) < (l.length : Int) := by omega
      obtain ⟨v, hv⟩ : ∃ p, l[i]? = some p := ⟨_, List.getElem?_eq_getElem (show i < l.length by omega)⟩
      apply Tells.seq (fr' := twFr b d l i o g ++ [(30, .bool true)]) (H' := H)
      · (refine ⟨0, ?_⟩; simp (maxSteps := 2000000) -implicitDefEqProofs [-getElem?_pos, List.getElem?_cons_zero, List.getElem?_cons_succ, go_sem, eqV, plen, loadV, storeV, twFr, hiI])
      apply Tells.seq (fr' := twFr b d l i o g ++ [(30, .bool true)]) (H' := H)
      · refine condT (by simp [evalO, getF, twFr]) ?_
        exact ⟨0, rfl⟩
      have hs : v.t.length ≤ 16777216 := by
        rcases ok_tx (hok v (hmem i v hv)) with h | h
        · rw [h]; decide
        · exact h.2
      refine (piece (tw_round b d l i o g v ob H (by omega) hv hb hT hs ho hw) _ rfl).mono ?_
      rintro q ⟨h1, o', g', ob', h2, h3, h4⟩
      exact .inl ⟨h1, l.length - (i + 1), by omega, i + 1, o', g', ob', rfl, by omega, h2, h3, h4⟩
    rintro fr H ⟨o, g, ob, rfl, ho, hw⟩
    refine Tells.of (o := ⟨.ret, [(4, .sl o 0 (b ++ txR l).length g), (5, .int .i64 0)], H⟩) ⟨0, ?_⟩ ⟨rfl, o, g, ob, rfl, rfl, ho, hw⟩
    unfold twFr
    rw [List.take_length]
    generalize (b ++ txR l).length = n at *
    simp (maxSteps := 2000000) -implicitDefEqProofs [-getElem?_pos, List.getElem?_cons_zero, List.getElem?_cons_succ, go_sem, eqV, plen, loadV, storeV, assignV]

end

theorem tapp_ev {H : AM.Heap} {a A : AV} {b : List UInt8} {l : List Va} (h : Byt H a b) (hA : RoV H A l) (hb : b.length ≤ 2000000) (hl : ∀ p ∈ l, p.okR) (hT : (txR l).length ≤ 1000000) :
    ∃ ob, Rw (.pb (txApp b l).1) 0 ob ∧ evT X 18 [a, A] H = some (.tup [.sl H.length 0 (txApp b l).1.length 0, .int .i64 (txApp b l).2], H ++ [some ob]) := by
  obtain ⟨d, pv, xv, hpv, hd, hxv⟩ := args_v (f := 18) (i := 1) rfl hA (args_nil 2)
  obtain ⟨c, p, xl, hp, hc, hx'⟩ := args_byt (C := X) (f := 18) (i := 0) rfl h hxv
  obtain ⟨code, hcode, hr⟩ := tapp_code c b d l hc hb hl hT
  obtain ⟨ob, q1, q2⟩ := Ev1.newB (H := H) (n := (txApp b l).1.length) (l := (txApp b l).1) (rest := [.int .i64 (txApp b l).2]) (evT_below X) Tryd.func18 hcode hx' (by simp [idsL, ids, hp.ids, hpv.ids]) (by simp [gtag]) rfl rfl rfl (by
    obtain ⟨o, ⟨he, o1, g, ob, q1, q2, q3, q4⟩, hrun⟩ := hr
    exact ⟨o, ⟨he, o1, g, ob, by show some [getF o.fr 4, getF o.fr 5] = _; rw [q1, q2], q3, q4⟩, by rw [par18, coB hp, coV hpv, coerce_nil]; exact hrun⟩)
  exact ⟨ob, q1, evT_eq q2⟩

end Go.Proofs.YtafdnpcamepbmaaDoor

/- Walks: row.Turned: a round. -/
namespace Go.Proofs.YtafdnpcamepbmaaDoor
open Go.AM
set_option linter.unusedSimpArgs false
set_option linter.unusedVariables false

/-- the row, at 1 -/
def tnHp (l : List Va) (H : AM.Heap) : Prop := ∃ ob, H[1]? = some (some ob) ∧ Rw (.pr 12 (l.map Va.pay)) 0 ob
theorem tnHp.push {l : List Va} {H : AM.Heap} (h : tnHp l H) (x : AM.Heap) : tnHp l (H ++ x) := by
  obtain ⟨ob, h2, h3⟩ := h
  exact ⟨ob, at_cat h2, h3⟩

theorem bvT7 (s : List UInt8) : buildV X 38 [(0, .int .i64 7), (3, .str s)] = some (.agg (Va.pay { k := 7, t := s })) := by kernel_rfl

section
variable (e : Nat) (ts : List Ty) (l : List Va)

def tnFr (n i : Nat) : AM.Frame := [(6, .sl 1 0 n 0), (21, tyA e ts), (22, .int .i64 (ts.length : Nat)), (23, .int .i64 (i : Nat))]
def tnFm (n i k : Nat) (tl : AM.Frame) : AM.Frame := [(6, .sl 1 0 n 0), (8, .int .i64 (i : Nat)), (9, .ptr k 0 0 0), (21, tyA e ts), (22, .int .i64 (ts.length : Nat)), (23, .int .i64 (i : Nat))] ++ tl

set_option maxRecDepth 100000 in
set_option maxHeartbeats 4000000 in
/-- the type's own place -/
theorem tn6 (n i : Nat) (t : Ty) (H : AM.Heap) (ht : ts[i]? = some t) :
    ∃ code, ((Tryd.f6.body).bind (codeAt [1, 1, 1, 0, 1, 0, 0, 1, 1, 0, 0, 0])) = some code ∧ Run X (evT X) 6 0 code (tnFr e ts n i ++ [(24, .bool true)]) H ⟨.normal, tnFm e ts n i H.length [], H ++ [some (tyO t)]⟩ := by
  refine ⟨_, rfl, ?_⟩
  have hTl : (ts.map Ty.pay).length = ts.length := List.length_map _
  have hrow : (ts.map Ty.pay)[i]? = some t.pay := by rw [List.getElem?_map, ht]; rfl
  have hlt := at_lt ht
  have hiI : (i : Int) < (ts.length : Int) := by omega
  have hnew : ∀ x : Option AM.Obj, (H ++ [x])[H.length]? = some x := fun x => by simp
  unfold tnFr tnFm tyA
  generalize ts.map Ty.pay = T at *
  simp only [Ty.pay] at hrow
  (refine ⟨0, ?_⟩; simp (maxSteps := 2000000) -implicitDefEqProofs [-getElem?_pos, List.getElem?_cons_zero, List.getElem?_cons_succ, go_sem, eqV, plen, loadV, storeV, hiI, hlt, hTl, hrow, tyO, Ty.pay, retagL, retag, retagP, flatCells, splice, scalars, scalar, hnew, mkTy])

set_option maxRecDepth 100000 in
set_option maxHeartbeats 4000000 in
/-- has it a text? -/
theorem tn7 (n i k : Nat) (t : Ty) (H : AM.Heap) (hk : H[k]? = some (some (tyO t))) :
    ∃ code, ((Tryd.f6.body).bind (codeAt [1, 1, 1, 0, 1, 0, 0, 1, 1, 0, 0, 1, 0, 0])) = some code ∧ Run X (evT X) 6 0 code (tnFm e ts n i k []) H ⟨.normal, tnFm e ts n i k [(35, .bool (bad45 t))], H⟩ := by
  refine ⟨_, rfl, ?_⟩
  unfold tnFm tyA bad45
  generalize ts.map Ty.pay = T at *
  by_cases h4 : t.t = 4
  · (refine ⟨0, ?_⟩; simp (maxSteps := 2000000) -implicitDefEqProofs [-getElem?_pos, List.getElem?_cons_zero, List.getElem?_cons_succ, go_sem, eqV, plen, loadV, storeV, hk, tyO, Ty.pay, h4])
  have b4 : ((t.t : Int) == 4) = false := by simp; omega
  by_cases h5 : t.t = 5
  · (refine ⟨0, ?_⟩; simp (maxSteps := 2000000) -implicitDefEqProofs [-getElem?_pos, List.getElem?_cons_zero, List.getElem?_cons_succ, go_sem, eqV, plen, loadV, storeV, hk, tyO, Ty.pay, h4, h5, b4])
  have b5 : ((t.t : Int) == 5) = false := by simp; omega
  (refine ⟨0, ?_⟩; simp (maxSteps := 2000000) -implicitDefEqProofs [-getElem?_pos, List.getElem?_cons_zero, List.getElem?_cons_succ, go_sem, eqV, plen, loadV, storeV, hk, tyO, Ty.pay, h4, h5, b4, b5])

set_option maxRecDepth 100000 in
set_option maxHeartbeats 4000000 in
/-- is it nothing? -/
theorem tn9 (i k : Nat) (v : Va) (H : AM.Heap) (hv : l[i]? = some v) (hH : tnHp l H) :
    ∃ code, ((Tryd.f6.body).bind (codeAt [1, 1, 1, 0, 1, 0, 0, 1, 1, 0, 0, 1, 1, 0])) = some code ∧ Run X (evT X) 6 0 code (tnFm e ts l.length i k [(35, .bool false)]) H ⟨.normal, tnFm e ts l.length i k [(41, .bool (decide (v.k ≠ 0)))], H⟩ := by
  refine ⟨_, rfl, ?_⟩
  obtain ⟨⟨p, g, cap, z, row, ids, tg⟩, h1, q1, q2, q3, q4, q5⟩ := hH
  simp only at q1 q2 q3 q4 q5
  subst q1 q2 q3 q4 q5
  have hlt := at_lt hv
  have hiI : (i : Int) < (l.length : Int) := by omega
  have hrow : (l.map Va.pay)[i]? = some v.pay := by rw [List.getElem?_map, hv]; rfl
  unfold tnFm tyA
  generalize ts.map Ty.pay = T at *
  generalize l.map Va.pay = L at *
  generalize l.length = n at *
  simp only [Va.pay] at hrow
  by_cases hk : v.k = 0
  · (refine ⟨0, ?_⟩; simp (maxSteps := 2000000) -implicitDefEqProofs [-getElem?_pos, List.getElem?_cons_zero, List.getElem?_cons_succ, go_sem, eqV, plen, loadV, storeV, h1, hiI, hlt, hrow, hk, retagL, retag, retagP, flatCells, splice, scalars, scalar])
  have hkb : (v.k == 0) = false := by simpa using hk
  (refine ⟨0, ?_⟩; simp (maxSteps := 2000000) -implicitDefEqProofs [-getElem?_pos, List.getElem?_cons_zero, List.getElem?_cons_succ, go_sem, eqV, plen, loadV, storeV, h1, hiI, hlt, hrow, hk, hkb, retagL, retag, retagP, flatCells, splice, scalars, scalar])

end

end Go.Proofs.YtafdnpcamepbmaaDoor

/- Walks: row.Turned: a value's text put in its place. -/
namespace Go.Proofs.YtafdnpcamepbmaaDoor
open Go.AM
set_option linter.unusedSimpArgs false
set_option linter.unusedVariables false

section
variable (e : Nat) (ts : List Ty) (l : List Va)

def tnFs (n i : Nat) (s : List UInt8) : AM.Frame := [(6, .sl 1 0 n 0), (8, .int .i64 (i : Nat)), (10, .str s), (21, tyA e ts), (22, .int .i64 (ts.length : Nat)), (23, .int .i64 (i : Nat))]

set_option maxRecDepth 100000 in
set_option maxHeartbeats 4000000 in
/-- its text -/
theorem tn10 (i k : Nat) (v : Va) (t : Ty) (H : AM.Heap) (hv : l[i]? = some v) (hok : v.okR) (ht : t.t < 256) (hk : H[k]? = some (some (tyO t))) (hH : tnHp l H) :
    ∃ code, ((Tryd.f6.body).bind (codeAt [1, 1, 1, 0, 1, 0, 0, 1, 1, 0, 0, 1, 1, 1, 0, 0])) = some code ∧ Run X (evT X) 6 0 code (tnFm e ts l.length i k [(41, .bool true)]) H ⟨.normal, tnFs e ts l.length i (vtX v t).1, H⟩ := by
  refine ⟨_, rfl, ?_⟩
  have hT := text_ev (H := H) (v := v) (t := t) ht hok.1 hok.2
  obtain ⟨⟨p, g, cap, z, row, ids, tg⟩, h1, q1, q2, q3, q4, q5⟩ := hH
  simp only at q1 q2 q3 q4 q5
  subst q1 q2 q3 q4 q5
  have hlt := at_lt hv
  have hiI : (i : Int) < (l.length : Int) := by omega
  have hrow : (l.map Va.pay)[i]? = some v.pay := by rw [List.getElem?_map, hv]; rfl
  generalize vtX v t = x at *
  unfold tnFm tnFs tyA
  generalize ts.map Ty.pay = T at *
  generalize l.map Va.pay = L at *
  generalize l.length = n at *
  simp only [Va.pay, Ty.pay] at hrow hT
  (refine ⟨0, ?_⟩; simp (maxSteps := 2000000) -implicitDefEqProofs [-getElem?_pos, List.getElem?_cons_zero, List.getElem?_cons_succ, go_sem, eqV, plen, loadV, storeV, h1, hk, hiI, hlt, hrow, hT, tyO, Ty.pay, mkVa, mkTy, retagL, retag, retagP, flatCells, splice, scalars, scalar])

set_option maxRecDepth 100000 in
set_option maxHeartbeats 4000000 in
/-- put in its place -/
theorem tn11 (i : Nat) (v : Va) (s : List UInt8) (H : AM.Heap) (hv : l[i]? = some v) (hH : tnHp l H) :
    ∃ H', tnHp (l.set i { k := 7, t := s }) H' ∧ ∃ code, ((Tryd.f6.body).bind (codeAt [1, 1, 1, 0, 1, 0, 0, 1, 1, 0, 0, 1, 1, 1, 0, 1])) = some code ∧ Run X (evT X) 6 0 code (tnFs e ts l.length i s) H ⟨.normal, tnFr e ts l.length i, H'⟩ := by
  obtain ⟨⟨p, g, cap, z, row, ids, tg⟩, h1, q1, q2, q3, q4, q5⟩ := hH
  simp only at q1 q2 q3 q4 q5
  subst q1 q2 q3 q4 q5
  refine ⟨upd H 1 (some ⟨.pr 12 ((l.map Va.pay).set i (Va.pay { k := 7, t := s })), 0, cap, z, true, false, 0⟩), ⟨_, at_set h1, by rw [List.map_set], rfl, rfl, rfl, rfl⟩, _, rfl, ?_⟩
  have hlt := at_lt hv
  have hiI : (i : Int) < (l.length : Int) := by omega
  have hrow : (l.map Va.pay)[i]? = some v.pay := by rw [List.getElem?_map, hv]; rfl
  have hbv := bvT7 s
  unfold tnFs tnFr tyA
  generalize ts.map Ty.pay = T at *
  generalize l.map Va.pay = L at *
  generalize l.length = n at *
  simp only [Va.pay, Int.cast_ofNat_Int] at hrow hbv ⊢
  (refine ⟨0, ?_⟩; simp (maxSteps := 2000000) -implicitDefEqProofs [-getElem?_pos, List.getElem?_cons_zero, List.getElem?_cons_succ, go_sem, eqV, plen, loadV, storeV, h1, hiI, hlt, hrow, hbv, mkVa, freezeL, freeze, freezeP, joinTags, joinTag, tags, tagsL, ids, idsL, retagL, retag, retagP, flatCells, splice, scalars, scalar])

end

end Go.Proofs.YtafdnpcamepbmaaDoor
