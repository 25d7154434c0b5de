/- VO to B1: texts of this claim, one behind the other; what each shows stands at its head. -/
import Derived.Test.YtbmddnokokoofaaAm4
import Derived.Test.YtbmddnokokoofaaMg4
/- Walks: a value read: whole. -/
namespace Go.Proofs.Ytbmddnokokoofaa
open Go.AM
set_option linter.unusedSimpArgs false
set_option linter.unusedVariables false

section
variable (c : Nat) (b : List UInt8) (t : Ty)

set_option maxRecDepth 100000 in
set_option maxHeartbeats 4000000 in
theorem vread_code (hc : c = 0 → b = []) (ht : t.t < 256) (hbm : b.length ≤ 90000000) :
    ∃ code, Try.f26.body = some code ∧
    Tells (Rets (rvQ (rdV b t))) X (evT X) 26 0 code [(0, .ro c (.pb b) 1), (1, .agg t.pay)] [] := by
  refine ⟨_, rfl, ?_⟩
  have hK := kind_ev ht [some (tyO t), some (vaO {})]
  have hbd := kind_bd t.t t.u
  have hB : Byt [some (tyO t), some (vaO {})] (.ro c (.pb b) 1) b := Byt.ro (.inl rfl) hc
  have hb0 := bvV0
  apply Tells.seq (fr' := [(0, .ro c (.pb b) 1), (3, .ptr 0 0 0 0), (4, .ptr 1 0 0 0)]) (H' := [some (tyO t), some (vaO {})])
  · (refine ⟨0, ?_⟩; simp (maxSteps := 2000000) -implicitDefEqProofs [-getElem?_pos, List.getElem?_cons_zero, List.getElem?_cons_succ, go_sem, eqV, plen, loadV, storeV, tyO, Ty.pay, vaO, Va.pay])
  apply Tells.seq (fr' := [(0, .ro c (.pb b) 1), (3, .ptr 0 0 0 0), (4, .ptr 1 0 0 0), (7, .int .i64 (kindN t.t t.u))]) (H' := [some (tyO t), some (vaO {})])
  · simp only [tyO, Ty.pay, vaO, Va.pay, Int.cast_ofNat_Int] at hK
    generalize kindN t.t t.u = k at *
    (refine ⟨0, ?_⟩; simp (maxSteps := 2000000) -implicitDefEqProofs [-getElem?_pos, List.getElem?_cons_zero, List.getElem?_cons_succ, go_sem, eqV, plen, loadV, storeV, tyO, Ty.pay, vaO, Va.pay, mkTy, hK])
  clear hK
  apply Tells.assoc
  apply Tells.seq (fr' := [(0, .ro c (.pb b) 1), (3, .ptr 0 0 0 0), (4, .ptr 1 0 0 0), (7, .int .i64 (kindN t.t t.u)), (19, .int .i64 (kindN t.t t.u))]) (H' := [some (tyO t), some (vaO {})])
  · generalize kindN t.t t.u = k at *
    (refine ⟨0, ?_⟩; simp (maxSteps := 2000000) -implicitDefEqProofs [-getElem?_pos, List.getElem?_cons_zero, List.getElem?_cons_succ, go_sem, eqV, plen, loadV, storeV])
  apply Tells.or (P := fun fr H => fr = [(0, .ro c (.pb b) 1), (3, .ptr 0 0 0 0), (4, .ptr 1 0 0 0), (7, .int .i64 (kindN t.t t.u)), (45, .bool false)] ∧ H = [some (tyO t), some (vaO {})] ∧ (kindN t.t t.u = 1 ∨ kindN t.t t.u = 2 ∨ kindN t.t t.u = 3 ∨ kindN t.t t.u = 4))
  · apply Tells.blkOr (hq := fun o h => by rw [h.1]; simp)
    simp only [Va.pay, Int.cast_ofNat_Int] at hb0
    by_cases h1 : kindN t.t t.u < 0
    · have hm : kindN t.t t.u = -1 := by omega
      have hr : rdV b t = ({}, 0, 2) := if_pos h1
      rw [hr, hm]
      refine Tells.of (o := ⟨.ret, [(4, .ptr 1 0 0 0), (5, .int .i64 0), (6, .int .i64 2)], [some (tyO t), some (vaO {})]⟩) ⟨0, ?_⟩ (.inr ⟨by simp, rfl, rfl, rfl, rfl, rfl⟩)
      simp (maxSteps := 2000000) -implicitDefEqProofs [-getElem?_pos, List.getElem?_cons_zero, List.getElem?_cons_succ, go_sem, eqV, plen, loadV, storeV, tyO, Ty.pay, vaO, Va.pay, hb0, mkVa, flatCells, splice, scalars]
    have e1 : (kindN t.t t.u == -1) = false := beq_eq_false_iff_ne.2 (by omega)
    by_cases h2 : kindN t.t t.u = 0
    · have hr : rdV b t = ({}, 0, 0) := by unfold rdV; rw [if_neg h1, if_pos h2]
      rw [hr, h2]
      refine Tells.of (o := ⟨.ret, [(4, .ptr 1 0 0 0), (5, .int .i64 0), (6, .int .i64 0)], [some (tyO t), some (vaO {})]⟩) ⟨0, ?_⟩ (.inr ⟨by simp, rfl, rfl, rfl, rfl, rfl⟩)
      simp (maxSteps := 2000000) -implicitDefEqProofs [-getElem?_pos, List.getElem?_cons_zero, List.getElem?_cons_succ, go_sem, eqV, plen, loadV, storeV, tyO, Ty.pay, vaO, Va.pay, hb0, mkVa, flatCells, splice, scalars]
    have e2 : (kindN t.t t.u == 0) = false := beq_eq_false_iff_ne.2 h2
    by_cases h5 : kindN t.t t.u = 5 ∨ kindN t.t t.u = 6
    · have hr : rdV b t = if (rdW b t.t).2.2 ≠ 0 then ({}, 0, (rdW b t.t).2.2) else ({ k := kindN t.t t.u, w := (rdW b t.t).1 }, (rdW b t.t).2.1, 0) := by
        unfold rdV; rw [if_neg h1, if_neg h2, if_pos h5]
      rw [hr]
      have hW := rw_ev hB ht hbm
      generalize rdW b t.t = r at *
      obtain ⟨w, n, e⟩ := r
      have hbw := fun k => bvVw k w
      simp only [Wh.pay, Va.pay, Int.cast_ofNat_Int] at hbw
      simp only at *
      by_cases he : e = 0
      · subst he
        rw [if_neg (by simp)]
        refine Tells.of (o := ⟨.ret, [(4, .ptr 1 0 0 0), (5, .int .i64 (n : Nat)), (6, .int .i64 0)], [some (tyO t), some (vaO { k := kindN t.t t.u, w := w }), some (whO w)]⟩) ⟨0, ?_⟩ (.inr ⟨by simp, rfl, rfl, rfl, rfl, rfl⟩)
        simp only [tyO, Ty.pay, vaO, Va.pay, Wh.pay, Int.cast_ofNat_Int] at hW
        rcases h5 with h5 | h5 <;> rw [h5]
        · simp (maxSteps := 2000000) -implicitDefEqProofs [-getElem?_pos, List.getElem?_cons_zero, List.getElem?_cons_succ, go_sem, eqV, plen, loadV, storeV, tyO, Ty.pay, vaO, Va.pay, whO, Wh.pay, hW, hbw, mkVa, mkWh, flatCells, splice, scalars]
        · simp (maxSteps := 2000000) -implicitDefEqProofs [-getElem?_pos, List.getElem?_cons_zero, List.getElem?_cons_succ, go_sem, eqV, plen, loadV, storeV, tyO, Ty.pay, vaO, Va.pay, whO, Wh.pay, hW, hbw, mkVa, mkWh, flatCells, splice, scalars]
      · have heb : (e != 0) = true := by simpa using he
        rw [if_pos he]
        refine Tells.of (o := ⟨.ret, [(4, .ptr 1 0 0 0), (5, .int .i64 0), (6, .int .i64 e)], [some (tyO t), some (vaO {}), some (whO w)]⟩) ⟨0, ?_⟩ (.inr ⟨by simp, rfl, rfl, rfl, rfl, rfl⟩)
        simp only [tyO, Ty.pay, vaO, Va.pay, Wh.pay, Int.cast_ofNat_Int] at hW
        rcases h5 with h5 | h5 <;> rw [h5]
        · simp (maxSteps := 2000000) -implicitDefEqProofs [-getElem?_pos, List.getElem?_cons_zero, List.getElem?_cons_succ, go_sem, eqV, plen, loadV, storeV, tyO, Ty.pay, vaO, Va.pay, whO, Wh.pay, hW, hb0, heb, mkVa, mkWh, flatCells, splice, scalars]
        · simp (maxSteps := 2000000) -implicitDefEqProofs [-getElem?_pos, List.getElem?_cons_zero, List.getElem?_cons_succ, go_sem, eqV, plen, loadV, storeV, tyO, Ty.pay, vaO, Va.pay, whO, Wh.pay, hW, hb0, heb, mkVa, mkWh, flatCells, splice, scalars]
    have e5 : (kindN t.t t.u == 5) = false := beq_eq_false_iff_ne.2 (by omega)
    have e6 : (kindN t.t t.u == 6) = false := beq_eq_false_iff_ne.2 (by omega)
    by_cases h7 : kindN t.t t.u = 7
    · have hr : rdV b t = if (rdT b).2.2 ≠ 0 then ({}, 0, (rdT b).2.2) else if 16777216 < (rdT b).1.length then ({}, 0, 5) else ({ k := 7, t := (rdT b).1 }, (rdT b).2.1, 0) := by
        unfold rdV; rw [if_neg h1, if_neg h2, if_neg h5, if_pos h7]
      rw [hr, h7]
      have hT := readText_ev hB hbm
      generalize rdT b = r at *
      obtain ⟨s, n, e⟩ := r
      have hbt := fun k => bvVt k s
      simp only [Va.pay, Int.cast_ofNat_Int] at hbt
      simp only at *
      simp only [tyO, Ty.pay, vaO, Va.pay, Int.cast_ofNat_Int] at hT
      by_cases he : e = 0
      · subst he
        rw [if_neg (by simp)]
        by_cases hs : 16777216 < s.length
        · rw [if_pos hs]
          have hsi : (16777216 : Int) < (s.length : Int) := by omega
          refine Tells.of (o := ⟨.ret, [(4, .ptr 1 0 0 0), (5, .int .i64 0), (6, .int .i64 5)], [some (tyO t), some (vaO {})]⟩) ⟨0, ?_⟩ (.inr ⟨by simp, rfl, rfl, rfl, rfl, rfl⟩)
          simp (maxSteps := 2000000) -implicitDefEqProofs [-getElem?_pos, List.getElem?_cons_zero, List.getElem?_cons_succ, go_sem, eqV, plen, loadV, storeV, tyO, Ty.pay, vaO, Va.pay, hT, hb0, hsi, hs, mkVa, flatCells, splice, scalars]
        · rw [if_neg hs]
          have hsi : ¬ (16777216 : Int) < (s.length : Int) := by omega
          refine Tells.of (o := ⟨.ret, [(4, .ptr 1 0 0 0), (5, .int .i64 (n : Nat)), (6, .int .i64 0)], [some (tyO t), some (vaO { k := 7, t := s })]⟩) ⟨0, ?_⟩ (.inr ⟨by simp, rfl, rfl, rfl, rfl, rfl⟩)
          simp (maxSteps := 2000000) -implicitDefEqProofs [-getElem?_pos, List.getElem?_cons_zero, List.getElem?_cons_succ, go_sem, eqV, plen, loadV, storeV, tyO, Ty.pay, vaO, Va.pay, hT, hbt, hsi, hs, mkVa, flatCells, splice, scalars]
      · have heb : (e != 0) = true := by simpa using he
        rw [if_pos he]
        refine Tells.of (o := ⟨.ret, [(4, .ptr 1 0 0 0), (5, .int .i64 0), (6, .int .i64 e)], [some (tyO t), some (vaO {})]⟩) ⟨0, ?_⟩ (.inr ⟨by simp, rfl, rfl, rfl, rfl, rfl⟩)
        simp (maxSteps := 2000000) -implicitDefEqProofs [-getElem?_pos, List.getElem?_cons_zero, List.getElem?_cons_succ, go_sem, eqV, plen, loadV, storeV, tyO, Ty.pay, vaO, Va.pay, hT, hb0, heb, mkVa, flatCells, splice, scalars]
    have e7 : (kindN t.t t.u == 7) = false := beq_eq_false_iff_ne.2 h7
    refine Tells.of (o := ⟨.normal, [(0, .ro c (.pb b) 1), (3, .ptr 0 0 0 0), (4, .ptr 1 0 0 0), (7, .int .i64 (kindN t.t t.u)), (45, .bool false)], [some (tyO t), some (vaO {})]⟩) ⟨0, ?_⟩ (.inl ⟨rfl, rfl, rfl, by omega⟩)
    generalize kindN t.t t.u = k at *
    simp (maxSteps := 2000000) -implicitDefEqProofs [-getElem?_pos, List.getElem?_cons_zero, List.getElem?_cons_succ, go_sem, eqV, plen, loadV, storeV, e1, e2, e5, e6, e7]
  rintro fr H ⟨rfl, rfl, hk⟩
  exact piece (vread_num c b t hc ht hbm hk) _ rfl

end

theorem vread_ev {H : AM.Heap} {a : AV} {b : List UInt8} {t : Ty} (h : Byt H a b) (ht : t.t < 256) (hbm : b.length ≤ 90000000) :
    evT X 26 [a, .agg t.pay] H = some (.tup [.agg (rdV b t).1.pay, .int .i64 ((rdV b t).2.1 : Nat), .int .i64 (rdV b t).2.2], H) := by
  obtain ⟨c, p, xl, hp, hc, hx'⟩ := args_byt (C := X) (f := 26) (i := 0) rfl h (args_ty (f := 26) (i := 1) (t := t) (args_nil 2))
  obtain ⟨code, hcode, o, ⟨he, q4, q0, q5, q6⟩, hr⟩ := vread_code c b t hc ht hbm
  refine evT_eq (Ev1.toldP (l := [.agg (rdV b t).1.pay, .int .i64 ((rdV b t).2.1 : Nat), .int .i64 (rdV b t).2.2]) (evT_below X) Try.func26 hcode hx' (by simp [idsL, ids, Ty.pay]) (by simp [gtag]) (by simp [idsL, ids, Va.pay]) (by simp [tagsL, tags, Va.pay]) rfl ⟨o, ⟨he, ?_⟩, by rw [par26, coB hp]; exact hr⟩)
  generalize rdV b t = r at *
  show resultsV X o.fr o.H [.cell 4 32, .tmp 5, .tmp 6] = _
  simp only [vaO, Va.pay] at q0
  simp [resultsV, q4, q5, q6, loadV, live, q0, pagg, mkVa, Va.pay]

theorem rdW_le (b : List UInt8) (t : Nat) : (rdW b t).2.1 ≤ b.length := by
  unfold rdW
  repeat' split
  all_goals (try exact Nat.zero_le _)
  all_goals (simp only; omega)

end Go.Proofs.Ytbmddnokokoofaa

/- Walks: parameters read: one behind the other. -/
namespace Go.Proofs.Ytbmddnokokoofaa
open Go.AM
set_option linter.unusedSimpArgs false
set_option linter.unusedVariables false

/-- what the i-th parameter's own bytes tell -/
def tyI (ts : List Ty) (i : Nat) : Ty := ts.getD i ⟨0, false⟩
/-- parameters read one behind the other, from the i-th on -/
def prF (b : List UInt8) (g : List Bool) (ts : List Ty) : Nat → Nat → List Pm → List UInt8 → List Pm × List UInt8 × Int
  | 0, _, a, r => (a, r, 0)
  | k + 1, i, a, r =>
    if lgB g i = true ∨ bitB b i = true then prF b g ts k (i + 1) (a ++ [⟨tyI ts i, lgB g i, {}⟩]) r
    else if (tyI ts i).t = 6 then ([], [], 5)
    else if (rdV r (tyI ts i)).2.2 ≠ 0 then ([], [], (rdV r (tyI ts i)).2.2)
    else prF b g ts k (i + 1) (a ++ [⟨tyI ts i, false, (rdV r (tyI ts i)).1⟩]) (r.drop (rdV r (tyI ts i)).2.1)

def nilP : AM.Obj := ⟨.pr 15 [], 0, .none, 0, true, false, 0⟩
theorem nilP_rw : Rw (.pr 15 []) 0 nilP := ⟨rfl, rfl, rfl, rfl, rfl⟩
theorem emP : rowOf (emptyRow X 34) .none 0 = nilP := by kernel_rfl
theorem bdPm (k : Int) (u lg : Bool) : buildV X 34 [(0, .agg (.pc [.int .u8 k, .bool u])), (1, .bool lg)] = some (.agg (.pc [.int .u8 k, .bool u, .bool lg, .int .i64 0, .int .i64 0, .int .u64 0, .str [], .bool false, .int .i64 0, .int .i64 0, .int .i64 0, .int .i64 0, .int .i64 0, .int .i64 0, .int .i64 0])) := by kernel_rfl
theorem bsPm (H : AM.Heap) (p : Pm) : buildSliceV X H 35 1 [(0, .agg p.pay)] = some (.ro 1 (.pr 15 [p.pay]) 0, H) := by
  obtain ⟨⟨t, u⟩, lg, ⟨k, i, b, s, ⟨neg, y, mo, d, h, mi, sc, us⟩⟩⟩ := p
  kernel_rfl
theorem upd_same {H : AM.Heap} {o : Nat} {x : Option AM.Obj} (h : H[o]? = some x) : upd H o x = H := by
  unfold upd
  apply List.ext_getElem?
  intro j
  rw [List.getElem?_set]
  split
  · rename_i e
    subst e
    rw [if_pos (at_lt h), h]
  · rfl
/-- a value that reads as these types -/
def RoTy (H : AM.Heap) (A : AV) (ts : List Ty) : Prop :=
  (∃ c t, A = .ro c (.pr 2 (ts.map Ty.pay)) t) ∨ (∃ o g ob, A = .sl o 0 ts.length g ∧ 2 < o ∧ H[o]? = some (some ob) ∧ Rw (.pr 2 (ts.map Ty.pay)) g ob)
theorem RoTy.more {H r : AM.Heap} {A : AV} {ts : List Ty} (h : RoTy H A ts) : RoTy (H ++ r) A ts := by
  rcases h with h | ⟨o, g, ob, h1, h0, h2, h3⟩
  · exact .inl h
  · exact .inr ⟨o, g, ob, h1, h0, at_cat h2, h3⟩

section
variable (c : Nat) (b : List UInt8) (cg : Nat) (g : List Bool) (ts : List Ty) (fi : Nat) (A : AV)

def prMd (fi : Nat) : AM.Frame := [(11, .fn 22 [.ptr 1 0 0 0]), (13, .fn 23 [.ptr 0 0 0 0])]
def prFr (i : Nat) (r : List UInt8) : AM.Frame := [(8, .sl 2 0 i i), (11, .fn 22 [.ptr 1 0 0 0]), (13, .fn 23 [.ptr 0 0 0 0]), (15, .ro c (.pb r) 1), (16, .int .u8 (fi : Nat)), (111, A), (112, .int .i64 (ts.length : Nat)), (113, .int .i64 (i : Nat))]
def prFb (i : Nat) (r : List UInt8) (m : AM.Frame) (n tl : AM.Frame) : AM.Frame := [(8, .sl 2 0 n.length n.length)] ++ [(11, .fn 22 [.ptr 1 0 0 0]), (13, .fn 23 [.ptr 0 0 0 0]), (15, .ro c (.pb r) 1), (16, .int .u8 (fi : Nat))] ++ m ++ [(111, A), (112, .int .i64 (ts.length : Nat)), (113, .int .i64 (i : Nat))] ++ tl
/-- the heap of a round -/
structure PrHp (H : AM.Heap) (a : List Pm) (i : Nat) : Prop where
  h0 : H[0]? = some (some (roB c (.pb b) 1 1))
  h1 : ∃ tg, H[1]? = some (some (roB cg (.pc (g.map .bool)) 4 tg))
  h2 : ∃ ob, H[2]? = some (some ob) ∧ Rw (.pr 15 (a.map Pm.pay)) i ob
  hA : RoTy H A ts
/-- an error told -/
def prE (e : Int) (o : AM.Out) : Prop := e ≠ 0 ∧ o.ex = .ret ∧ ∃ j, getF o.fr 8 = .sl j 0 0 0 ∧ getF o.fr 9 = .bool false ∧ getF o.fr 10 = .int .i64 e ∧ o.H[j]? = some (some nilP)

/-- what a round keeps -/
def prM (m : AM.Frame) (i : Nat) (r : List UInt8) : AM.Frame := [(8, .sl 2 0 i i), (11, .fn 22 [.ptr 1 0 0 0]), (13, .fn 23 [.ptr 0 0 0 0]), (15, .ro c (.pb r) 1), (16, .int .u8 (fi : Nat))] ++ m ++ [(111, A), (112, .int .i64 (ts.length : Nat)), (113, .int .i64 (i : Nat))]

set_option maxRecDepth 100000 in
set_option maxHeartbeats 4000000 in
theorem pr_own (i : Nat) (r : List UInt8) (a : List Pm) (H : AM.Heap) (t : Ty) (hn : ts.length ≤ 65535) (hb : ts.length ≤ 8 * b.length) (ht : ts[i]? = some t) (hH : PrHp c b cg g ts A H a i) :
    ∃ code, ((Try.f9.body).bind (codeAt [1, 1, 1, 1, 1, 1, 1, 1, 1, 1, 1, 1, 1, 0, 1, 0, 0, 1, 1, 0, 0, 0])) = some code ∧ Run X (evT X) 9 0 code (prFr c ts fi A i r ++ [(114, .bool true)]) H ⟨.normal, prM c ts fi A [(19, .int .i64 (i : Nat)), (20, .ptr H.length 0 0 0)] i r, H ++ [some (tyO t)]⟩ := by
  refine ⟨_, rfl, ?_⟩
  have hlt := at_lt ht
  have hiI : (i : Int) < (ts.length : Int) := by omega
  have hrow : (ts.map Ty.pay)[i]? = some (.pc [.int .u8 (t.t : Nat), .bool t.u]) := by rw [List.getElem?_map, ht]; rfl
  have hL : (ts.map Ty.pay).length = ts.length := List.length_map _
  have hnew : ∀ x : Option AM.Obj, (H ++ [x])[H.length]? = some x := fun x => by simp
  rcases hH.hA with ⟨c', t', rfl⟩ | ⟨o, g', ob, rfl, ho2, ho, hw⟩
  · generalize ts.map Ty.pay = L at *
    (refine ⟨0, ?_⟩; simp (maxSteps := 2000000) -implicitDefEqProofs [-getElem?_pos, List.getElem?_cons_zero, List.getElem?_cons_succ, go_sem, eqV, plen, loadV, storeV, prFr, prM, tyO, Ty.pay, mkTy, hlt, hiI, hL, hrow, hnew, retagL, retag, retagP, flatCells, splice, scalars, scalar])
  · obtain ⟨p, gg, cap, z, row, ids, tg⟩ := ob
    obtain ⟨w1, w2, w3, w4, w5⟩ := hw
    simp only at w1 w2 w3 w4 w5
    subst w1 w2 w3 w4 w5
    have ho3 := at_cat (r := [some (tyO t)]) ho
    generalize ts.map Ty.pay = L at *
    (refine ⟨0, ?_⟩; simp (maxSteps := 2000000) -implicitDefEqProofs [-getElem?_pos, List.getElem?_cons_zero, List.getElem?_cons_succ, go_sem, eqV, plen, loadV, storeV, prFr, prM, tyO, Ty.pay, mkTy, hlt, hiI, hL, hrow, hnew, ho, ho3, retagL, retag, retagP, flatCells, splice, scalars, scalar])

theorem set_at {H : AM.Heap} {i I : Nat} (h : H[0]? = some (some (roB c (.pb b) 1 1))) (hi : i / 8 < b.length) (hi2 : i ≤ 9000000) : evT X 23 [.int .i64 (i : Nat), .ptr 0 0 0 0] H = some (.bool (bitB b i), H) := by
  have := set_ev (I := (i : Nat)) rfl h hi hi2
  rwa [upd_same h] at this
theorem long_at {H : AM.Heap} {i tg : Nat} (h : H[1]? = some (some (roB cg (.pc (g.map .bool)) 4 tg))) (hi2 : i ≤ 9000000) : evT X 22 [.int .i64 (i : Nat), .ptr 1 0 0 0] H = some (.bool (lgB g i), upd H 1 (some (roB cg (.pc (g.map .bool)) 4 4))) :=
  long_ev (I := (i : Nat)) rfl h hi2

set_option maxRecDepth 100000 in
set_option maxHeartbeats 4000000 in
theorem pr_new (i : Nat) (r : List UInt8) (H : AM.Heap) (t : Ty) (L tg : Nat) (hi : i ≤ 9000000) (h1 : H[1]? = some (some (roB cg (.pc (g.map .bool)) 4 tg))) (hL : H[L]? = some (some (tyO t))) (hl : 3 ≤ L) :
    ∃ code, ((Try.f9.body).bind (codeAt [1, 1, 1, 1, 1, 1, 1, 1, 1, 1, 1, 1, 1, 0, 1, 0, 0, 1, 1, 0, 0, 1, 0])) = some code ∧ Run X (evT X) 9 0 code (prM c ts fi A [(19, .int .i64 (i : Nat)), (20, .ptr L 0 0 0)] i r) H ⟨.normal, prM c ts fi A [(19, .int .i64 (i : Nat)), (20, .ptr L 0 0 0), (21, .ptr H.length 0 0 0)] i r, upd H 1 (some (roB cg (.pc (g.map .bool)) 4 4)) ++ [some (pmO ⟨t, lgB g i, {}⟩)]⟩ := by
  refine ⟨_, rfl, ?_⟩
  have hl1 := long_at cg g (i := i) h1 hi
  have hup : (upd H 1 (some (roB cg (.pc (g.map .bool)) 4 4))).length = H.length := by simp [upd]
  have hnew : ∀ x : Option AM.Obj, (upd H 1 (some (roB cg (.pc (g.map .bool)) 4 4)) ++ [x])[H.length]? = some x := fun x => by rw [← hup]; simp
  have hE : ∃ e, eqH H (upd H 1 (some (roB cg (.pc (g.map .bool)) 4 4))) = e := ⟨_, rfl⟩
  obtain ⟨e, hE⟩ := hE
  generalize upd H 1 (some (roB cg (.pc (g.map .bool)) 4 4)) = HU at *
  have hlt := at_lt hL
  have hre : reach H reachFuel [1] [] = [1] := reach_box h1 (by simp [roB, ids, idsL])
  have hia : idsAt H 1 = [] := by simp [idsAt, h1, roB, ids, idsL]
  have n1 : (H.length == 1) = false := beq_eq_false_iff_ne.2 (by omega)
  have n2 : (H.length == L) = false := beq_eq_false_iff_ne.2 (by omega)
  have n3 : (L == 1) = false := beq_eq_false_iff_ne.2 (by omega)
  have n4 : L < H.length + 1 := by omega
  apply Run.dy (by simp) keep9_43 (by simp)
  · (conv => lhs; simp (maxSteps := 2000000) -implicitDefEqProofs [-getElem?_pos, List.getElem?_cons_zero, List.getElem?_cons_succ, go_sem, eqV, plen, loadV, storeV, runD, out1, markOf, freeO, quietO, pushes, isAssign, calledV, touched, mentioned, opVals, touchCall, mentionCall, idsAt, Op.operands, ids, idsL, lendArgs, lendV, lend1, lendL, eqH_self, prM, tyO, Ty.pay, mkTy, hL, hl1, bdPm, hnew, hre, h1, roB, hup, hE, retagL, retag, retagP, flatCells, splice, scalars, scalar])
    rfl
  · refine marksOk_of (ps := [(0, 1), (0, 2), (1, 2), (0, 3), (0, 5), (1, 5), (2, 5), (3, 5), (4, 5)]) ?_ ?_
    · kernel_rfl
    · simp [bearP, bear, disjoint, n1, n2, n3]
      exact ⟨by omega, by omega⟩
  · rfl

end

end Go.Proofs.Ytbmddnokokoofaa

/- Walks: parameters read: a round. -/
namespace Go.Proofs.Ytbmddnokokoofaa
open Go.AM
set_option linter.unusedSimpArgs false
set_option linter.unusedVariables false

section
variable (c : Nat) (b : List UInt8) (cg : Nat) (g : List Bool) (ts : List Ty) (fi : Nat) (A : AV)

set_option maxRecDepth 100000 in
set_option maxHeartbeats 4000000 in
/-- a parameter put behind the others -/
theorem pr_app (i : Nat) (r : List UInt8) (H : AM.Heap) (p : Pm) (a : List Pm) (L : Nat) (ob : AM.Obj) (m tl : AM.Frame) (hi : a.length = i) (hi2 : i ≤ 9000000) (h2 : H[2]? = some (some ob)) (hw : Rw (.pr 15 (a.map Pm.pay)) i ob) (hL : H[L]? = some (some (pmO p))) (hl : 3 ≤ L)
    (hm : (m = [] ∧ tl = []) ∨ ∃ L2, m = [(20, .ptr L2 0 0 0)] ∧ tl = [(131, .bool false)]) :
    ∃ ob', Rw (.pr 15 ((a ++ [p]).map Pm.pay)) (i + 1) ob' ∧ ∃ code, ((Try.f9.body).bind (codeAt [1, 1, 1, 1, 1, 1, 1, 1, 1, 1, 1, 1, 1, 0, 1, 0, 0, 1, 1, 0, 0, 1, 1, 1])) = some code ∧ Run X (evT X) 9 0 code ((prM c ts fi A (m ++ [(21, .ptr L 0 0 0)]) i r) ++ tl) H ⟨.normal, [(8, .sl 2 0 (i + 1) (i + 1)), (11, .fn 22 [.ptr 1 0 0 0]), (13, .fn 23 [.ptr 0 0 0 0]), (15, .ro c (.pb r) 1), (16, .int .u8 (fi : Nat)), (111, A), (112, .int .i64 (ts.length : Nat)), (113, .int .i64 (i : Nat))], upd H 2 (some ob')⟩ := by
  have hlen : (a.map Pm.pay).length = i := by rw [List.length_map, hi]
  obtain ⟨ob', hw', hA⟩ := app_rows (C := X) (T := 35) (e := 34) (es := 15) (H := H) (o := 2) (m := [p.pay]) (src := .ro 1 (.pr 15 [p.pay]) 0) (by simp) (by simp) (by omega) (by simp) (by simp) h2 hw rfl (by rw [hlen]; simp; omega)
  rw [hlen] at hA
  refine ⟨ob', by rw [List.map_append]; exact hw', _, rfl, ?_⟩
  have hbs := fun H => bsPm H p
  simp only [Pm.pay, List.length_cons, List.length_nil, Nat.zero_add] at hA hbs
  rcases hm with ⟨rfl, rfl⟩ | ⟨L2, rfl, rfl⟩
  · (refine ⟨0, ?_⟩; simp (maxSteps := 2000000) -implicitDefEqProofs [-getElem?_pos, List.getElem?_cons_zero, List.getElem?_cons_succ, go_sem, eqV, plen, loadV, storeV, prM, hL, pmO, Pm.pay, mkPm, hbs, hA, assignV, retagL, retag, retagP])
  · (refine ⟨0, ?_⟩; simp (maxSteps := 2000000) -implicitDefEqProofs [-getElem?_pos, List.getElem?_cons_zero, List.getElem?_cons_succ, go_sem, eqV, plen, loadV, storeV, prM, hL, pmO, Pm.pay, mkPm, hbs, hA, assignV, retagL, retag, retagP])

set_option maxRecDepth 100000 in
set_option maxHeartbeats 4000000 in
/-- a value put into its parameter -/
theorem pr_put (i : Nat) (r : List UInt8) (H : AM.Heap) (t : Ty) (v : Va) (k : Nat) (L L2 : Nat) (hc : c ≠ 0) (hk : k ≤ r.length) (hL : H[L]? = some (some (pmO ⟨t, false, {}⟩))) (hL2 : H[L2]? = some (some (vaO v))) (hne : L ≠ L2) :
    ∃ code, ((Try.f9.body).bind (codeAt [1, 1, 1, 1, 1, 1, 1, 1, 1, 1, 1, 1, 1, 0, 1, 0, 0, 1, 1, 0, 0, 1, 1, 0, 1, 0, 1, 1, 1])) = some code ∧ Run X (evT X) 9 0 code ((prM c ts fi A [(21, .ptr L 0 0 0), (22, .ptr L2 0 0 0), (23, .int .i64 (k : Nat)), (24, .int .i64 0)] i r) ++ [(143, .bool false)]) H ⟨.normal, prM c ts fi A [(21, .ptr L 0 0 0)] i (r.drop k), upd H L (some (pmO ⟨t, false, v⟩))⟩ := by
  refine ⟨_, rfl, ?_⟩
  have hki : (k : Int) ≤ (r.length : Int) := by omega
  have hsl := slFrom (c := c) (t := 1) (n := k) (b := r) (fun h => absurd h hc) hk H
  apply Run.dy (by simp) keep9_50 (by simp)
  · (conv => lhs; simp (maxSteps := 2000000) -implicitDefEqProofs [-getElem?_pos, List.getElem?_cons_zero, List.getElem?_cons_succ, go_sem, eqV, plen, loadV, storeV, runD, out1, markOf, freeO, quietO, pushes, isAssign, calledV, touched, mentioned, opVals, touchCall, mentionCall, idsAt, Op.operands, ids, idsL, lendArgs, lendV, lend1, lendL, eqH_self, prM, vaO, pmO, Va.pay, Pm.pay, mkVa, hL, hL2, hsl, retagL, retag, retagP, flatCells, splice, scalars, scalar])
    rfl
  · kernel_rfl
  · rfl

end

end Go.Proofs.Ytbmddnokokoofaa

/- Walks: the document's reader of fields: texts, bytes 0. -/
namespace Go.Proofs.Ytbmddnokokoofaa
open Go.AM
set_option linter.unusedSimpArgs false
set_option linter.unusedVariables false

/-- a counted text off what is left -/
def rtF (s : St) : List UInt8 × St := if s.2 ≠ 0 then ([], s) else ((rdT s.1).1, s.1.drop (rdT s.1).2.1, (rdT s.1).2.2)
/-- n bytes 0 off what is left -/
def zrS (n : Nat) (s : St) : St := ((fx n s).2.1, wr ((bts n s).any (· != 0)) (fx n s).2.2)

theorem rdT_bad {b : List UInt8} (h : (rdT b).2.2 ≠ 0) : (rdT b).1 = [] ∧ (rdT b).2.1 = 0 := by
  unfold rdT at h ⊢
  split
  · exact ⟨rfl, rfl⟩
  · rename_i h1
    rw [if_neg h1] at h
    split
    · exact ⟨rfl, rfl⟩
    · rename_i h2
      rw [if_neg h2] at h
      exact absurd rfl h

theorem rdT_le' (b : List UInt8) : (rdT b).2.1 ≤ b.length := by
  by_cases h : (rdT b).2.2 = 0
  · exact (rdT_le h).1
  · rw [(rdT_bad h).2]; omega

theorem rtF_nil {c : Nat} {s : St} (h : c = 0 → s.1 = []) : c = 0 → (rtF s).2.1 = [] := by
  intro hc
  have := h hc
  unfold rtF; split
  · exact this
  · simp [this]
theorem rtF_len (s : St) : (rtF s).2.1.length ≤ s.1.length := by
  unfold rtF; split
  · exact Nat.le_refl _
  · simp

section
variable (c t tg : Nat) (s : St)

set_option maxRecDepth 100000 in
theorem ftext_code (hc : c = 0 → s.1 = []) (hb : s.1.length ≤ 90000000) : ∃ code, Try.f65.body = some code ∧
    Run X (evT X) 65 1 code [(0, .ptr 0 0 0 0)] [some (rdO c t tg s)] ⟨.ret, [(2, .str (rtF s).1)], [some (rdO c t tg (rtF s).2)]⟩ := by
  refine ⟨_, rfl, 0, ?_⟩
  obtain ⟨b, e⟩ := s
  simp only at hb
  unfold rtF
  by_cases he : e = 0
  · subst he
    rw [if_neg (by simp)]
    have hR := rreadText_ev (H := [some (rdO c t tg (b, 0))]) (a := .ro c (.pb b) t) (b := b) (Byt.ro (.inl rfl) hc) hb
    have hle := rdT_le' b
    have hs1 := fun H => slFrom0 (t := t) hc hle H
    generalize rdT b = r at *
    obtain ⟨x, n, e⟩ := r
    simp only at hR hle hs1 ⊢
    simp only [rdO] at hR
    simp (maxSteps := 2000000) -implicitDefEqProofs [-getElem?_pos, List.getElem?_cons_zero, List.getElem?_cons_succ, go_sem, eqV, plen, loadV, storeV, rdO, hR, hs1]
  · rw [if_pos (by simpa using he)]
    have heb : (e != 0) = true := by simpa using he
    simp (maxSteps := 2000000) -implicitDefEqProofs [-getElem?_pos, List.getElem?_cons_zero, List.getElem?_cons_succ, go_sem, eqV, plen, loadV, storeV, rdO, he, heb]

end

theorem ftext_ev {H : AM.Heap} {o c t tg : Nat} {s : St} (ho : H[o]? = some (some (rdO c t tg s))) (hj : joinTags (tagsOb (rdO c t tg s)) = some t) (hc : c = 0 → s.1 = []) (hb : s.1.length ≤ 90000000) :
    evT X 65 [.ptr o 0 0 0] H = some (.str (rtF s).1, upd H o (some (rdO c t t (rtF s).2))) := by
  obtain ⟨code, hcode, hr⟩ := ftext_code c 2 2 s hc hb
  have := Ev1.box (C := X) (f := 65) (H := H) (o := o) (g := 0) (ob := rdO c t tg s) (ob1 := rdO c 2 2 (rtF s).2) (xs := []) (ys := []) (n := 2) (t := t) (rest := [])
    (l := [.str (rtF s).1]) (evT_below X) Try.func65 hcode rfl ho rfl rfl (args_nil 1) rfl rfl rfl (by simp [gtag]) hj hr (.inr rfl) rfl rfl rfl rfl rfl
    (by intro k hk; right; simpa [resultV, tags, tagsOb, rdO, tagsL] using hk) (.inr rfl)
  exact evT_eq (by simpa [rdO, ren, renL, bk, resultV] using this)

def zrFr (n len i : Nat) (bad : Bool) : AM.Frame := [(0, .ptr 0 0 0 0), (1, .int .i64 (n : Nat)), (4, .sl 1 0 len 0), (5, .bool bad), (6, .int .i64 (i : Nat))]

theorem take_any {l : List UInt8} {i : Nat} {y : UInt8} (h : l[i]? = some y) : (l.take (i + 1)).any (· != 0) = ((l.take i).any (· != 0) || (y != 0)) := by
  rw [take_snoc h]; simp

section
variable (c t : Nat) (s : St) (n : Nat)

end

end Go.Proofs.Ytbmddnokokoofaa

/- Walks: parameters read: all of them. -/
namespace Go.Proofs.Ytbmddnokokoofaa
open Go.AM
set_option linter.unusedSimpArgs false
set_option linter.unusedVariables false

theorem rdV_le (b : List UInt8) (t : Ty) (hb : b.length ≤ 90000000) : (rdV b t).2.1 ≤ b.length := by
  have h1 := rdW_le b t.t
  have h2 := rdT_le' b
  unfold rdV
  by_cases hr : (rfR b (sizeN t.t)).2 = 0
  · have hs : sizeN t.t ≤ b.length := by
      unfold rfR at hr
      split at hr
      · cases hr
      · split at hr
        · cases hr
        · omega
    repeat' split
    all_goals (simp only)
    all_goals omega
  · rw [if_pos hr]
    repeat' split
    all_goals (simp only)
    all_goals omega

section
variable (c : Nat) (b : List UInt8) (cg : Nat) (g : List Bool) (ts : List Ty) (fi : Nat) (A : AV)

theorem PrHp.push {H : AM.Heap} {a : List Pm} {i : Nat} {x : Option AM.Obj} (h : PrHp c b cg g ts A H a i) : PrHp c b cg g ts A (H ++ [x]) a i := by
  obtain ⟨h0, ⟨tg, h1⟩, ⟨ob, h2, h3⟩, h4⟩ := h
  exact ⟨at_cat h0, ⟨tg, at_cat h1⟩, ⟨ob, at_cat h2, h3⟩, h4.more⟩

def prFn (i : Nat) (r : List UInt8) : AM.Frame := [(8, .sl 2 0 (i + 1) (i + 1)), (11, .fn 22 [.ptr 1 0 0 0]), (13, .fn 23 [.ptr 0 0 0 0]), (15, .ro c (.pb r) 1), (16, .int .u8 (fi : Nat)), (111, A), (112, .int .i64 (ts.length : Nat)), (113, .int .i64 (i : Nat))]

/-- what a round tells -/
def PrQ (i : Nat) (a : List Pm) (r : List UInt8) (o : AM.Out) : Prop :=
  (o.ex = .normal ∧ ∃ a' r', (∀ k, prF b g ts (k + 1) i a r = prF b g ts k (i + 1) a' r') ∧ a'.length = i + 1 ∧ r'.length ≤ r.length ∧ o.fr = prFr c ts fi A (i + 1) r' ∧ PrHp c b cg g ts A o.H a' (i + 1)) ∨
  (∃ e, (∀ k, prF b g ts (k + 1) i a r = ([], [], e)) ∧ prE e o)

set_option maxRecDepth 100000 in
set_option maxHeartbeats 8000000 in
theorem pr_round (i : Nat) (r : List UInt8) (a : List Pm) (H : AM.Heap) (t : Ty) (hc : c ≠ 0) (hn : ts.length ≤ 65535) (hb : ts.length ≤ 8 * b.length) (ht : ts[i]? = some t) (htt : t.t < 256) (hal : a.length = i) (hr : r.length ≤ 90000000) (hH : PrHp c b cg g ts A H a i) :
    ∃ code, ((Try.f9.body).bind (codeAt [1, 1, 1, 1, 1, 1, 1, 1, 1, 1, 1, 1, 1, 0, 1, 0, 0])) = some code ∧ Tells (PrQ c b cg g ts fi A i a r) X (evT X) 9 0 code (prFr c ts fi A i r) H := by
  refine ⟨_, rfl, ?_⟩
  have hlt := at_lt ht
  have hiI : (i : Int) < (ts.length : Int) := by omega
  have w1 : IntKind.i64.wrap ((i : Int) + 1) = ((i + 1 : Nat) : Int) := by rw [wrap_i64 (by omega) (by omega)]; omega
  have hti : tyI ts i = t := by unfold tyI; rw [List.getD, ht]; rfl
  have hF : ∀ k, prF b g ts (k + 1) i a r = if lgB g i = true ∨ bitB b i = true then prF b g ts k (i + 1) (a ++ [⟨t, lgB g i, {}⟩]) r
    else if t.t = 6 then ([], [], 5)
    else if (rdV r t).2.2 ≠ 0 then ([], [], (rdV r t).2.2)
    else prF b g ts k (i + 1) (a ++ [⟨t, false, (rdV r t).1⟩]) (r.drop (rdV r t).2.1) := by
    intro k; rw [prF, hti]
  have hl2 := at_lt hH.h2.choose_spec.1
  apply Tells.seq (fr' := prFr c ts fi A i r ++ [(114, .bool true)]) (H' := H)
  · (refine ⟨0, ?_⟩; simp (maxSteps := 2000000) -implicitDefEqProofs [-getElem?_pos, List.getElem?_cons_zero, List.getElem?_cons_succ, go_sem, eqV, plen, loadV, storeV, prFr, hiI])
  apply Tells.seq (fr' := prFr c ts fi A i r ++ [(114, .bool true)]) (H' := H)
  · exact condT (by simp [evalO, getF, prFr]) ⟨0, rfl⟩
  apply Tells.or (P := fun fr H' => ∃ a' r', (∀ k, prF b g ts (k + 1) i a r = prF b g ts k (i + 1) a' r') ∧ a'.length = i + 1 ∧ r'.length ≤ r.length ∧ fr = prFn c ts fi A i r' ∧ PrHp c b cg g ts A H' a' (i + 1))
  case h' =>
    rintro fr H' ⟨a', r', h1, h2, h3, rfl, h5⟩
    refine Tells.of (o := ⟨.normal, prFr c ts fi A (i + 1) r', H'⟩) ⟨0, ?_⟩ (.inl ⟨rfl, a', r', h1, h2, h3, rfl, h5⟩)
    simp (maxSteps := 2000000) -implicitDefEqProofs [-getElem?_pos, List.getElem?_cons_zero, List.getElem?_cons_succ, go_sem, eqV, plen, loadV, storeV, prFr, prFn, w1]
  case h =>
  apply Tells.blkOr
  case hq =>
    rintro o (⟨h, _⟩ | ⟨e, _, _, h, _⟩)
    · rw [h]; simp
    · rw [h]; simp
  apply Tells.seq (piece (pr_own c b cg g ts fi A i r a H t hn hb ht hH) _ rfl)
  have hH1 := hH.push (x := some (tyO t))
  generalize hH1g : H ++ [some (tyO t)] = H1 at *
  have hL1 : H1.length = H.length + 1 := by rw [← hH1g]; simp
  have hty : H1[H.length]? = some (some (tyO t)) := by rw [← hH1g]; simp
  obtain ⟨tg, hlo⟩ := hH1.h1
  apply Tells.seq (piece (pr_new c cg g ts fi A i r H1 t H.length tg (by omega) hlo hty (by omega)) _ rfl)
  have hH1' : PrHp c b cg g ts A (upd H1 1 (some (roB cg (.pc (g.map .bool)) 4 4))) a i := by
    obtain ⟨k0, k1, ⟨ob, k2, k3⟩, k4⟩ := hH1
    refine ⟨at_ne k0 (by omega), ⟨4, at_set hlo⟩, ⟨ob, at_ne k2 (by omega), k3⟩, ?_⟩
    rcases k4 with q | ⟨o, g', obA, q1, q2, q3, q4⟩
    · exact .inl q
    · exact .inr ⟨o, g', obA, q1, q2, at_ne q3 (by omega), q4⟩
  have hty : (upd H1 1 (some (roB cg (.pc (g.map .bool)) 4 4)))[H.length]? = some (some (tyO t)) := at_ne hty (by omega)
  have hLu : (upd H1 1 (some (roB cg (.pc (g.map .bool)) 4 4))).length = H1.length := by simp [upd]
  rw [← hLu]
  rw [← hLu] at hL1
  generalize hHu : upd H1 1 (some (roB cg (.pc (g.map .bool)) 4 4)) = Hu at *
  have hH2 := hH1'.push (x := some (pmO ⟨t, lgB g i, {}⟩))
  have hpm : (Hu ++ [some (pmO ⟨t, lgB g i, {}⟩)])[Hu.length]? = some (some (pmO ⟨t, lgB g i, {}⟩)) := by simp
  have hty2 : (Hu ++ [some (pmO ⟨t, lgB g i, {}⟩)])[H.length]? = some (some (tyO t)) := at_cat hty
  generalize hH2g : Hu ++ [some (pmO ⟨t, lgB g i, {}⟩)] = H2 at *
  have hL2 : H2.length = Hu.length + 1 := by rw [← hH2g]; simp
  generalize hL1g : Hu.length = L1 at *
  generalize hLg : H.length = L at *
  have hset := set_at c b (i := i) (I := i) hH2.h0 (by omega) (by omega)
  apply Tells.assoc
  apply Tells.seq (fr' := prM c ts fi A [(20, .ptr L 0 0 0), (21, .ptr L1 0 0 0)] i r ++ [(131, .bool (!lgB g i && !bitB b i))]) (H' := H2)
  · cases hlg : lgB g i with
    | true =>
      rw [hlg] at hpm
      simp only [pmO, Pm.pay] at hpm
      (refine ⟨0, ?_⟩; simp (maxSteps := 2000000) -implicitDefEqProofs [-getElem?_pos, List.getElem?_cons_zero, List.getElem?_cons_succ, go_sem, eqV, plen, loadV, storeV, prM, hpm, mkPm])
    | false =>
      rw [hlg] at hpm
      simp only [pmO, Pm.pay] at hpm
      (refine ⟨0, ?_⟩; simp (maxSteps := 2000000) -implicitDefEqProofs [-getElem?_pos, List.getElem?_cons_zero, List.getElem?_cons_succ, go_sem, eqV, plen, loadV, storeV, prM, hpm, mkPm, hset])
  apply Tells.or (P := fun fr H' => ∃ p r' m tl, (∀ k, prF b g ts (k + 1) i a r = prF b g ts k (i + 1) (a ++ [p]) r') ∧ r'.length ≤ r.length ∧ fr = prM c ts fi A (m ++ [(21, .ptr L1 0 0 0)]) i r' ++ tl ∧ H'[L1]? = some (some (pmO p)) ∧ PrHp c b cg g ts A H' a i ∧ ((m = [] ∧ tl = []) ∨ ∃ L2, m = [(20, .ptr L2 0 0 0)] ∧ tl = [(131, .bool false)]))
  case h' =>
    rintro fr H' ⟨p, r', m, tl, h1, h2, rfl, h3, ⟨k0, ⟨tg1, k1⟩, ⟨ob, k2, k3⟩, k4⟩, h5⟩
    obtain ⟨ob', q1, q2⟩ := pr_app c ts fi A i r' H' p a L1 ob m tl hal (by omega) k2 k3 h3 (by omega) h5
    refine Tells.of (piece q2 _ rfl) (.inl ⟨rfl, a ++ [p], r', h1, by simp [hal], h2, rfl, ?_⟩)
    refine ⟨at_ne k0 (by omega), ⟨tg1, at_ne k1 (by omega)⟩, ⟨ob', at_set k2, q1⟩, ?_⟩
    rcases k4 with k4 | ⟨o, g', obA, k4, ko, k5, k6⟩
    · exact .inl k4
    · exact .inr ⟨o, g', obA, k4, ko, at_ne k5 (by omega), k6⟩
  by_cases hor : lgB g i = true ∨ bitB b i = true
  · have hv : (!lgB g i && !bitB b i) = false := by
      rcases hor with h | h
      · rw [h]; rfl
      · rw [h]; cases lgB g i <;> rfl
    rw [hv]
    refine Tells.condF (by simp [evalO, getF, prM]) (Tells.of (o := ⟨.normal, _, H2⟩) ⟨0, rfl⟩ (.inl ⟨rfl, ⟨t, lgB g i, {}⟩, r, [(20, .ptr L 0 0 0)], [(131, .bool false)], ?_, Nat.le_refl _, rfl, hpm, hH2, .inr ⟨L, rfl, rfl⟩⟩))
    intro k
    rw [hF k, if_pos hor]
  have hlg : lgB g i = false := by cases h : lgB g i with | true => exact absurd (.inl h) hor | false => rfl
  have hbt : bitB b i = false := by cases h : bitB b i with | true => exact absurd (.inr h) hor | false => rfl
  have hF2 : ∀ k, prF b g ts (k + 1) i a r = if t.t = 6 then ([], [], 5)
    else if (rdV r t).2.2 ≠ 0 then ([], [], (rdV r t).2.2)
    else prF b g ts k (i + 1) (a ++ [⟨t, false, (rdV r t).1⟩]) (r.drop (rdV r t).2.1) := by
    intro k; rw [hF k, if_neg hor]
  rw [hlg, hbt]
  rw [hlg] at hpm
  apply Tells.condT (by simp [evalO, getF, prM])
  have hnew : ∀ x : Option AM.Obj, (H2 ++ [x])[H2.length]? = some x := fun x => by simp
  apply Tells.assoc
  by_cases h6 : t.t = 6
  · have h6i : (((t.t : Nat) : Int) == 6) = true := by rw [h6]; rfl
    refine Tells.of (o := ⟨.ret, [(8, .sl H2.length 0 0 0), (9, .bool false), (10, .int .i64 5)], H2 ++ [some nilP]⟩) ⟨0, ?_⟩ (.inr ⟨by simp, .inr ⟨by simp, .inr ⟨5, fun k => by rw [hF2 k, if_pos h6], by decide, rfl, H2.length, rfl, rfl, rfl, hnew _⟩⟩⟩)
    simp only [tyO, Ty.pay] at hty2
    simp (maxSteps := 2000000) -implicitDefEqProofs [-getElem?_pos, List.getElem?_cons_zero, List.getElem?_cons_succ, go_sem, eqV, plen, loadV, storeV, prM, hty2, mkTy, h6i, h6, assignV, emP]
  have h6i : (((t.t : Nat) : Int) == 6) = false := beq_eq_false_iff_ne.2 (by omega)
  have hti2 : ((t.t : Nat) : Int) < 256 := by omega
  have hV := vread_ev (H := H2) (a := .ro c (.pb r) 1) (b := r) (t := t) (Byt.ro (.inl rfl) (fun h => absurd h hc)) htt hr
  have hvl := rdV_le r t hr
  apply Tells.seq (fr' := prM c ts fi A [(20, .ptr L 0 0 0), (21, .ptr L1 0 0 0)] i r ++ [(134, .bool false)]) (H' := H2)
  · simp only [tyO, Ty.pay] at hty2
    (refine ⟨0, ?_⟩; simp (maxSteps := 2000000) -implicitDefEqProofs [-getElem?_pos, List.getElem?_cons_zero, List.getElem?_cons_succ, go_sem, eqV, plen, loadV, storeV, prM, hty2, mkTy, h6i, h6])
  apply Tells.seq (fr' := prM c ts fi A [(20, .ptr L 0 0 0), (21, .ptr L1 0 0 0)] i r ++ [(134, .bool false)]) (H' := H2)
  · exact condF (by simp [evalO, getF, prM]) ⟨0, rfl⟩
  generalize rdV r t = x at *
  obtain ⟨v, k, e⟩ := x
  simp only at hV hvl hF2
  apply Tells.seq (fr' := prM c ts fi A [(21, .ptr L1 0 0 0), (22, .ptr H2.length 0 0 0), (23, .int .i64 (k : Nat)), (24, .int .i64 e)] i r) (H' := H2 ++ [some (vaO v)])
  · simp only [tyO, Ty.pay] at hty2
    simp only [Va.pay, Ty.pay] at hV
    (refine ⟨0, ?_⟩; simp (maxSteps := 2000000) -implicitDefEqProofs [-getElem?_pos, List.getElem?_cons_zero, List.getElem?_cons_succ, go_sem, eqV, plen, loadV, storeV, prM, hty2, mkTy, hV, vaO, Va.pay, mkVa, hnew, assignV, flatCells, splice, scalars, scalar])
  have hnew2 : ∀ x : Option AM.Obj, (H2 ++ [x, some nilP])[H2.length + 1]? = some (some nilP) := fun x => by simp
  by_cases he : e = 0
  · subst he
    have hF3 := fun k => (hF2 k).trans ((if_neg h6).trans (if_neg (by simp)))
    apply Tells.assoc
    apply Tells.seq (fr' := prM c ts fi A [(21, .ptr L1 0 0 0), (22, .ptr H2.length 0 0 0), (23, .int .i64 (k : Nat)), (24, .int .i64 0)] i r ++ [(143, .bool false)]) (H' := H2 ++ [some (vaO v)])
    · (refine ⟨0, ?_⟩; simp (maxSteps := 2000000) -implicitDefEqProofs [-getElem?_pos, List.getElem?_cons_zero, List.getElem?_cons_succ, go_sem, eqV, plen, loadV, storeV, prM])
    apply Tells.seq (fr' := prM c ts fi A [(21, .ptr L1 0 0 0), (22, .ptr H2.length 0 0 0), (23, .int .i64 (k : Nat)), (24, .int .i64 0)] i r ++ [(143, .bool false)]) (H' := H2 ++ [some (vaO v)])
    · exact condF (by simp [evalO, getF, prM]) ⟨0, rfl⟩
    have hH3 := hH2.push (x := some (vaO v))
    refine Tells.of (piece (pr_put c ts fi A i r (H2 ++ [some (vaO v)]) t v k L1 H2.length hc hvl (at_cat hpm) (hnew _) (by omega)) _ rfl) (.inl ⟨rfl, ⟨t, false, v⟩, r.drop k, [], [], hF3, by simp, rfl, at_set (at_cat hpm), ?_, .inl ⟨rfl, rfl⟩⟩)
    obtain ⟨k0, ⟨tg1, k1⟩, ⟨ob, k2, k3⟩, k4⟩ := hH3
    refine ⟨at_ne k0 (by omega), ⟨tg1, at_ne k1 (by omega)⟩, ⟨ob, at_ne k2 (by omega), k3⟩, ?_⟩
    rcases hH.hA with q | ⟨o, g', obA, q1, q2, q3, q4⟩
    · exact .inl q
    · have := at_lt q3
      refine .inr ⟨o, g', obA, q1, q2, at_ne (at_cat ?_) (by omega), q4⟩
      rw [← hH2g, ← hHu, ← hH1g]
      exact at_cat (at_ne (at_cat q3) (by omega))
  · have heb : (e != 0) = true := by simpa using he
    refine Tells.of (o := ⟨.ret, [(8, .sl (H2.length + 1) 0 0 0), (9, .bool false), (10, .int .i64 e)], H2 ++ [some (vaO v), some nilP]⟩) ?_ (.inr ⟨by simp, .inr ⟨by simp, .inr ⟨e, fun k => by rw [hF2 k, if_neg h6, if_pos he], he, rfl, H2.length + 1, rfl, rfl, rfl, hnew2 _⟩⟩⟩)
    apply Run.seq_out (hne := by simp)
    refine ⟨0, ?_⟩
    simp (maxSteps := 2000000) -implicitDefEqProofs [-getElem?_pos, List.getElem?_cons_zero, List.getElem?_cons_succ, go_sem, eqV, plen, loadV, storeV, prM, heb, assignV, emP]

end

end Go.Proofs.Ytbmddnokokoofaa

/- Walks: parameters read: the loop, the end. -/
namespace Go.Proofs.Ytbmddnokokoofaa
open Go.AM
set_option linter.unusedSimpArgs false
set_option linter.unusedVariables false

/-- what is told behind all -/
def prZ (fi : Nat) (x : List Pm × List UInt8 × Int) : List Pm × Bool × Int :=
  if x.2.2 ≠ 0 then ([], false, x.2.2) else if 0 < x.2.1.length then ([], false, 5) else (x.1, decide (fi = 1), 0)
/-- parameters told -/
def PrZ (x : List Pm × Bool × Int) (fr : AM.Frame) (H : AM.Heap) : Prop :=
  ∃ o g ob, getF fr 8 = .sl o 0 x.1.length g ∧ getF fr 9 = .bool x.2.1 ∧ getF fr 10 = .int .i64 x.2.2 ∧ H[o]? = some (some ob) ∧ Rw (.pr 15 (x.1.map Pm.pay)) g ob

theorem PrZ.bad {e : Int} {fr : AM.Frame} {H : AM.Heap} {j : Nat} (h1 : getF fr 8 = .sl j 0 0 0) (h2 : getF fr 9 = .bool false) (h3 : getF fr 10 = .int .i64 e) (h4 : H[j]? = some (some nilP)) : PrZ ([], false, e) fr H := ⟨j, 0, nilP, h1, h2, h3, h4, nilP_rw⟩

section
variable (c : Nat) (b : List UInt8) (cg : Nat) (g : List Bool) (ts : List Ty) (fi : Nat) (A : AV)

set_option maxRecDepth 100000 in
set_option maxHeartbeats 4000000 in
theorem pr_loop (r : List UInt8) (H : AM.Heap) (hc : c ≠ 0) (hn : ts.length ≤ 65535) (hb : ts.length ≤ 8 * b.length) (htt : ∀ t ∈ ts, t.t < 256) (hr : r.length ≤ 90000000) (hH : PrHp c b cg g ts A H [] 0) :
    ∃ code, ((Try.f9.body).bind (codeAt [1, 1, 1, 1, 1, 1, 1, 1, 1, 1, 1, 1, 1, 0, 1])) = some code ∧ Tells (Or2 (fun fr H' => ∃ a r', prF b g ts ts.length 0 [] r = (a, r', 0) ∧ a.length = ts.length ∧ fr = prFr c ts fi A ts.length r' ++ [(114, .bool false)] ∧ PrHp c b cg g ts A H' a ts.length) (fun o => ∃ e, prF b g ts ts.length 0 [] r = ([], [], e) ∧ prE e o))
      X (evT X) 9 0 code (prFr c ts fi A 0 r) H := by
  refine ⟨_, rfl, ?_⟩
  apply (Tells.blockOr (Q := fun o => ∃ e, prF b g ts ts.length 0 [] r = ([], [], e) ∧ prE e o))
  refine Tells.loopP (fun k fr H => ∃ i a r', k = ts.length - i ∧ i ≤ ts.length ∧ a.length = i ∧ r'.length ≤ 90000000 ∧ fr = prFr c ts fi A i r' ∧ PrHp c b cg g ts A H a i ∧ prF b g ts ts.length 0 [] r = prF b g ts (ts.length - i) i a r') ?_ (k := ts.length) ⟨0, [], r, rfl, by omega, rfl, hr, rfl, hH, rfl⟩
  rintro k fr H ⟨i, a, r', rfl, hi, ha, hr', rfl, hH, hF⟩
  by_cases hin : i = ts.length
  · subst hin
    rw [Nat.sub_self, prF] at hF
    refine Tells.of (o := ⟨.exit 5, prFr c ts fi A ts.length r' ++ [(114, .bool false)], H⟩) ⟨0, ?_⟩ (.inr ⟨by simp, .inl ⟨rfl, a, r', hF, ha, rfl, hH⟩⟩)
    simp (maxSteps := 2000000) -implicitDefEqProofs [-getElem?_pos, List.getElem?_cons_zero, List.getElem?_cons_succ, go_sem, eqV, plen, loadV, storeV, prFr]
  have hlt : i < ts.length := by omega
  obtain ⟨t, ht⟩ : ∃ t, ts[i]? = some t := ⟨_, List.getElem?_eq_getElem hlt⟩
  refine (piece (pr_round c b cg g ts fi A i r' a H t hc hn hb ht (htt t (List.mem_of_getElem? ht)) ha hr' hH) _ rfl).mono ?_
  have hs : ts.length - i = (ts.length - (i + 1)) + 1 := by omega
  rintro o (⟨he, a', r2, h1, h2, h3, h4, h5⟩ | ⟨e, h1, h2⟩)
  · exact .inl ⟨he, ts.length - (i + 1), by omega, i + 1, a', r2, rfl, by omega, h2, by omega, h4, h5, by rw [hF, hs, h1]⟩
  · exact .inr ⟨by rw [h2.2.1]; simp, .inr ⟨h2.2.1, e, by rw [hF, hs, h1], h2⟩⟩

set_option maxRecDepth 100000 in
set_option maxHeartbeats 4000000 in
theorem pr_tail (r : List UInt8) (H : AM.Heap) (tl : AM.Frame) (hc : c ≠ 0) (hn : ts.length ≤ 65535) (hb : ts.length ≤ 8 * b.length) (htt : ∀ t ∈ ts, t.t < 256) (hr : r.length ≤ 90000000) (hfi : fi = 0 ∨ fi = 1) (hH : PrHp c b cg g ts A H [] 0)
    (htl : tl = [] ∨ ∃ x y z, tl = [(85, x), (86, y), (87, z), (88, .bool false)]) :
    ∃ code, ((Try.f9.body).bind (codeAt [1, 1, 1, 1, 1, 1, 1, 1, 1, 1, 1, 1, 1])) = some code ∧ Tells (Rets (PrZ (prZ fi (prF b g ts ts.length 0 [] r)))) X (evT X) 9 0 code ([(2, A), (8, .sl 2 0 0 0), (11, .fn 22 [.ptr 1 0 0 0]), (13, .fn 23 [.ptr 0 0 0 0]), (15, .ro c (.pb r) 1), (16, .int .u8 (fi : Nat))] ++ tl) H := by
  refine ⟨_, rfl, ?_⟩
  have hL : (ts.map Ty.pay).length = ts.length := List.length_map _
  apply Tells.assoc
  apply Tells.seq (fr' := prFr c ts fi A 0 r) (H' := H)
  · rcases hH.hA with ⟨c', t', rfl⟩ | ⟨o, g', ob, rfl, ho2, ho, hw⟩
    · generalize ts.map Ty.pay = L at *
      rcases htl with rfl | ⟨x, y, z, rfl⟩
      · (refine ⟨0, ?_⟩; simp (maxSteps := 2000000) -implicitDefEqProofs [-getElem?_pos, List.getElem?_cons_zero, List.getElem?_cons_succ, go_sem, eqV, plen, loadV, storeV, prFr, hL])
      · (refine ⟨0, ?_⟩; simp (maxSteps := 2000000) -implicitDefEqProofs [-getElem?_pos, List.getElem?_cons_zero, List.getElem?_cons_succ, go_sem, eqV, plen, loadV, storeV, prFr, hL])
    · rcases htl with rfl | ⟨x, y, z, rfl⟩
      · (refine ⟨0, ?_⟩; simp (maxSteps := 2000000) -implicitDefEqProofs [-getElem?_pos, List.getElem?_cons_zero, List.getElem?_cons_succ, go_sem, eqV, plen, loadV, storeV, prFr, ho, hw.g])
      · (refine ⟨0, ?_⟩; simp (maxSteps := 2000000) -implicitDefEqProofs [-getElem?_pos, List.getElem?_cons_zero, List.getElem?_cons_succ, go_sem, eqV, plen, loadV, storeV, prFr, ho, hw.g])
  apply Tells.or (P := fun fr H' => ∃ a r', prF b g ts ts.length 0 [] r = (a, r', 0) ∧ a.length = ts.length ∧ fr = prFr c ts fi A ts.length r' ++ [(114, .bool false)] ∧ PrHp c b cg g ts A H' a ts.length) (piece ((pr_loop c b cg g ts fi A r H hc hn hb htt hr hH).imp fun code h => ⟨h.1, h.2.mono fun o h => by
    rcases h with h | ⟨h1, e, h2, h3⟩
    · exact .inl h
    · refine .inr ⟨h1, (?_ : Rets (PrZ (prZ fi (prF b g ts ts.length 0 [] r))) o)⟩
      obtain ⟨k1, k2, j, k3, k4, k5, k6⟩ := h3
      rw [h2]
      have : prZ fi (([] : List Pm), ([] : List UInt8), e) = ([], false, e) := if_pos k1
      rw [this]
      exact ⟨k2, PrZ.bad k3 k4 k5 k6⟩⟩) _ rfl)
  rintro fr H' ⟨a, r', h1, h2, rfl, h0, h3, ⟨ob, h4, h5⟩, h6⟩
  rw [h1]
  have hnew : ∀ x : Option AM.Obj, (H' ++ [x])[H'.length]? = some x := fun x => by simp
  by_cases h : 0 < r'.length
  · have : prZ fi (a, r', 0) = ([], false, 5) := by unfold prZ; rw [if_neg (by simp), if_pos h]
    rw [this]
    have hi : (0 : Int) < (r'.length : Int) := by omega
    refine Tells.of (o := ⟨.ret, [(8, .sl H'.length 0 0 0), (9, .bool false), (10, .int .i64 5)], H' ++ [some nilP]⟩) ?_ ⟨rfl, PrZ.bad rfl rfl rfl (hnew _)⟩
    apply Run.seq_out (hne := by simp)
    refine ⟨0, ?_⟩
    simp (maxSteps := 2000000) -implicitDefEqProofs [-getElem?_pos, List.getElem?_cons_zero, List.getElem?_cons_succ, go_sem, eqV, plen, loadV, storeV, prFr, hi, h, assignV, emP]
  · have : prZ fi (a, r', 0) = (a, decide (fi = 1), 0) := by unfold prZ; rw [if_neg (by simp), if_neg h]
    rw [this]
    have hr0 : r'.length = 0 := by omega
    refine Tells.of (o := ⟨.ret, [(8, .sl 2 0 ts.length ts.length), (9, .bool (decide (fi = 1))), (10, .int .i64 0)], H'⟩) ⟨0, ?_⟩ ⟨rfl, 2, ts.length, ob, by rw [h2]; rfl, rfl, rfl, h4, h5⟩
    rcases hfi with rfl | rfl
    · simp (maxSteps := 2000000) -implicitDefEqProofs [-getElem?_pos, List.getElem?_cons_zero, List.getElem?_cons_succ, go_sem, eqV, plen, loadV, storeV, prFr, hr0, assignV]
    · simp (maxSteps := 2000000) -implicitDefEqProofs [-getElem?_pos, List.getElem?_cons_zero, List.getElem?_cons_succ, go_sem, eqV, plen, loadV, storeV, prFr, hr0, assignV]

end

end Go.Proofs.Ytbmddnokokoofaa

/- Walks: parameters read. -/
namespace Go.Proofs.Ytbmddnokokoofaa
open Go.AM
set_option linter.unusedSimpArgs false
set_option linter.unusedVariables false

/-- is a bit set that is none? -/
def bxB (b : List UInt8) (g : List Bool) (m i : Nat) : Bool := bitB b i && (decide (m ≤ i) || lgB g i)
/-- what Read tells -/
def rdPar (b : List UInt8) (n : Int) (ts : List Ty) (g : List Bool) : List Pm × Bool × Int :=
  if n < 0 ∨ 65535 < n then ([], false, 2) else
  if n = 0 then (if 0 < b.length then ([], false, 5) else ([], false, 0)) else
  if b.length < (n.toNat + 7) / 8 then ([], false, 4) else
  if (List.range (8 * ((n.toNat + 7) / 8))).any (bxB b g n.toNat) then ([], false, 5) else
  match b.drop ((n.toNat + 7) / 8) with
  | [] => ([], false, 4)
  | y :: r =>
    if y.toNat = 0 then (if ts.length < n.toNat then ([], false, 5) else if (ts.take n.toNat).any (fun t => !kn t.t) then ([], false, 5) else prZ 0 (prF b g (ts.take n.toNat) n.toNat 0 [] r))
    else if y.toNat = 1 then (if (tyR r n.toNat).2 ≠ 0 then ([], false, (tyR r n.toNat).2) else prZ 1 (prF b g (tyR r n.toNat).1 n.toNat 0 [] (r.drop (2 * n.toNat))))
    else ([], false, 5)

section
variable (c : Nat) (b : List UInt8) (n : Int) (ct : Nat) (ts : List Ty) (cg : Nat) (g : List Bool)

/-- a round's frame, heap -/
def pbFr (m : Nat) (T : AV) (i : Nat) : AM.Frame := [(1, .int .i64 (m : Nat)), (2, T), (4, .ptr 0 0 0 0), (8, .sl 2 0 0 0), (11, .fn 22 [.ptr 1 0 0 0]), (12, .int .i64 (((m + 7) / 8 : Nat) : Int)), (13, .fn 23 [.ptr 0 0 0 0]), (46, .int .i64 ((8 * ((m + 7) / 8) : Nat) : Int)), (47, .int .i64 (i : Nat))]
def pbHp (t0 t1 : Nat) : AM.Heap := [some (roB c (.pb b) 1 t0), some (roB cg (.pc (g.map .bool)) 4 t1), some nilP]

set_option maxRecDepth 100000 in
set_option maxHeartbeats 4000000 in
theorem pb_round (m : Nat) (T : AV) (i t0 t1 : Nat) (hm : m ≤ 65535) (hi : i < 8 * ((m + 7) / 8)) (hb : (m + 7) / 8 ≤ b.length) :
    ∃ code, ((Try.f9.body).bind (codeAt [1, 1, 1, 1, 1, 1, 1, 0, 1, 0, 0])) = some code ∧
    Tells (fun o => (bxB b g m i = false ∧ o.ex = .normal ∧ o.fr = pbFr m T (i + 1) ∧ ∃ t1, o.H = pbHp c b cg g 1 t1) ∨ (bxB b g m i = true ∧ prE 5 o)) X (evT X) 9 0 code (pbFr m T i) (pbHp c b cg g t0 t1) := by
  refine ⟨_, rfl, ?_⟩
  have hiI : (i : Int) < ((8 * ((m + 7) / 8) : Nat) : Int) := by omega
  have w1 : IntKind.i64.wrap ((i : Int) + 1) = ((i + 1 : Nat) : Int) := by rw [wrap_i64 (by omega) (by omega)]; omega
  have hset := set_ev (H := pbHp c b cg g t0 t1) (o := 0) (c := c) (t := 1) (tg := t0) (i := i) (b := b) (I := (i : Nat)) rfl rfl (by omega) (by omega)
  have hlong := long_ev (H := pbHp c b cg g 1 t1) (o := 1) (c := cg) (t := 4) (tg := t1) (i := i) (g := g) (I := (i : Nat)) rfl rfl (by omega)
  unfold pbFr
  unfold pbHp at *
  generalize 8 * ((m + 7) / 8) = m8 at *
  generalize (m + 7) / 8 = q at *
  generalize g.map AV.bool = G at *
  unfold bxB
  simp only [roB, upd, List.set_cons_zero, List.set_cons_succ] at hset hlong
  cases hbit : bitB b i with
  | false =>
    rw [hbit] at hset
    refine Tells.of (o := ⟨.normal, _, [some (roB c (.pb b) 1 1), some (roB cg (.pc G) 4 t1), some nilP]⟩) ⟨0, ?_⟩ (.inl ⟨rfl, rfl, rfl, t1, rfl⟩)
    simp (maxSteps := 2000000) -implicitDefEqProofs [-getElem?_pos, List.getElem?_cons_zero, List.getElem?_cons_succ, go_sem, eqV, plen, loadV, storeV, roB, hiI, w1, hset]
  | true =>
  rw [hbit] at hset
  by_cases hmi : m ≤ i
  · have hmI : (m : Int) ≤ (i : Int) := by omega
    have hmN : ¬ i < m := by omega
    refine Tells.of (o := ⟨.ret, [(8, .sl 3 0 0 0), (9, .bool false), (10, .int .i64 5)], [some (roB c (.pb b) 1 1), some (roB cg (.pc G) 4 t1), some nilP, some nilP]⟩) ⟨0, ?_⟩ (.inr ⟨by rw [decide_eq_true hmi]; rfl, by decide, rfl, 3, rfl, rfl, rfl, rfl⟩)
    simp (maxSteps := 2000000) -implicitDefEqProofs [-getElem?_pos, List.getElem?_cons_zero, List.getElem?_cons_succ, go_sem, eqV, plen, loadV, storeV, roB, hiI, w1, hset, hmI, hmi, assignV, emP]
  have hmI : ¬ (m : Int) ≤ (i : Int) := by omega
  have hmd : decide (m ≤ i) = false := decide_eq_false hmi
  cases hlg : lgB g i with
  | false =>
    rw [hlg] at hlong
    refine Tells.of (o := ⟨.normal, _, [some (roB c (.pb b) 1 1), some (roB cg (.pc G) 4 4), some nilP]⟩) ⟨0, ?_⟩ (.inl ⟨by rw [hmd]; rfl, rfl, rfl, 4, rfl⟩)
    simp (maxSteps := 2000000) -implicitDefEqProofs [-getElem?_pos, List.getElem?_cons_zero, List.getElem?_cons_succ, go_sem, eqV, plen, loadV, storeV, roB, hiI, w1, hset, hmI, hmi, hlong]
  | true =>
    rw [hlg] at hlong
    refine Tells.of (o := ⟨.ret, [(8, .sl 3 0 0 0), (9, .bool false), (10, .int .i64 5)], [some (roB c (.pb b) 1 1), some (roB cg (.pc G) 4 4), some nilP, some nilP]⟩) ⟨0, ?_⟩ (.inr ⟨by simp, by decide, rfl, 3, rfl, rfl, rfl, rfl⟩)
    simp (maxSteps := 2000000) -implicitDefEqProofs [-getElem?_pos, List.getElem?_cons_zero, List.getElem?_cons_succ, go_sem, eqV, plen, loadV, storeV, roB, hiI, w1, hset, hmI, hmi, hlong, assignV, emP]

set_option maxRecDepth 100000 in
set_option maxHeartbeats 4000000 in
theorem pb_loop (m : Nat) (T : AV) (h0 : 1 ≤ m) (hm : m ≤ 65535) (hb : (m + 7) / 8 ≤ b.length) :
    ∃ code, ((Try.f9.body).bind (codeAt [1, 1, 1, 1, 1, 1, 1, 0, 1])) = some code ∧
    Tells (Or2 (fun fr H => (List.range (8 * ((m + 7) / 8))).any (bxB b g m) = false ∧ fr = pbFr m T (8 * ((m + 7) / 8)) ++ [(48, .bool false)] ∧ ∃ t1, H = pbHp c b cg g 1 t1) (fun o => (List.range (8 * ((m + 7) / 8))).any (bxB b g m) = true ∧ prE 5 o)) X (evT X) 9 0 code (pbFr m T 0) (pbHp c b cg g 0 0) := by
  refine ⟨_, rfl, ?_⟩
  apply (Tells.blockOr (Q := fun o => (List.range (8 * ((m + 7) / 8))).any (bxB b g m) = true ∧ prE 5 o))
  refine Tells.loopP (fun k fr H => ∃ i t0 t1, k = 8 * ((m + 7) / 8) - i ∧ i ≤ 8 * ((m + 7) / 8) ∧ (0 < i → t0 = 1) ∧ fr = pbFr m T i ∧ H = pbHp c b cg g t0 t1 ∧ ∀ j, j < i → bxB b g m j = false) ?_ (k := 8 * ((m + 7) / 8)) ⟨0, 0, 0, rfl, by omega, by omega, rfl, rfl, by omega⟩
  rintro k fr H ⟨i, t0, t1, rfl, hi, ht, rfl, rfl, hall⟩
  by_cases hin : i = 8 * ((m + 7) / 8)
  · subst hin
    have ht0 := ht (by omega)
    subst ht0
    have hany : (List.range (8 * ((m + 7) / 8))).any (bxB b g m) = false := by
      rw [List.any_eq_false]
      intro j hj
      rw [hall j (List.mem_range.1 hj)]; simp
    refine Tells.of (o := ⟨.exit 0, pbFr m T (8 * ((m + 7) / 8)) ++ [(48, .bool false)], pbHp c b cg g 1 t1⟩) ⟨0, ?_⟩ (.inr ⟨by simp, .inl ⟨rfl, hany, rfl, t1, rfl⟩⟩)
    unfold pbFr
    generalize 8 * ((m + 7) / 8) = m8 at *
    generalize (m + 7) / 8 = q at *
    simp (maxSteps := 2000000) -implicitDefEqProofs [-getElem?_pos, List.getElem?_cons_zero, List.getElem?_cons_succ, go_sem, eqV, plen, loadV, storeV, pbHp, roB]
  refine (piece (pb_round c b cg g m T i t0 t1 hm (by omega) hb) _ rfl).mono ?_
  rintro o (⟨h1, h2, h3, t2, h4⟩ | ⟨h1, h2⟩)
  · refine .inl ⟨h2, 8 * ((m + 7) / 8) - (i + 1), by omega, i + 1, 1, t2, rfl, by omega, fun _ => rfl, h3, h4, fun j hj => ?_⟩
    by_cases hji : j = i
    · rw [hji]; exact h1
    · exact hall j (by omega)
  · refine .inr ⟨by rw [h2.2.1]; simp, .inr ⟨h2.2.1, List.any_eq_true.2 ⟨i, List.mem_range.2 (by omega), h1⟩, h2⟩⟩

end

end Go.Proofs.Ytbmddnokokoofaa

/- Walks: what an execute says, behind its checks: bits, types, values. -/
namespace Go.Proofs.Ytbmddnokokoofaa
open Go.AM
set_option linter.unusedSimpArgs false
set_option linter.unusedVariables false

/-- a type's sign -/
def sgn (p : Pm) : Nat := if p.t.u then 128 else 0
def tyB (p : Pm) : List UInt8 := [UInt8.ofNat p.t.t, UInt8.ofNat (sgn p)]
def tysB (l : List Pm) : List UInt8 := l.flatMap tyB
def paE (p : Pm) : List UInt8 := if p.lg = true ∨ p.v.k = 0 then [] else enV p.v p.t
def restB (l : List Pm) : List UInt8 := l.flatMap paE
/-- is the parameter nothing? -/
def nulP (l : List Pm) (i : Nat) : Bool := match l[i]? with | some p => !p.lg && decide (p.v.k = 0) | none => false

theorem tysB_len (l : List Pm) : (tysB l).length = 2 * l.length := by
  induction l with
  | nil => rfl
  | cons p l ih => unfold tysB at ih ⊢; rw [List.flatMap_cons, List.length_append, ih]; simp [tyB]; omega

theorem restB_le (l : List Pm) (i : Nat) : (restB (l.take i)).length ≤ (restB l).length := by
  conv => rhs; rw [← List.take_append_drop i l]
  unfold restB
  rw [List.flatMap_append, List.length_append]
  omega

section
variable (b : List UInt8) (d : Nat) (l : List Pm) (bd : Bool) (K m8 : Nat)

def bitO (x : List UInt8) : AM.Obj := ⟨.pb x, 0, some m8, 1, true, false, 0⟩
def zer : List UInt8 := List.replicate m8 0

/-- a round's frame -/
def p2Fr (i o : Nat) : AM.Frame := [(2, .bool bd), (10, .sl K 0 b.length 0), (11, .sl (K + 1) 0 m8 0), (12, .sl (K + 2) 0 (tysB (l.take i)).length i), (13, .sl o 0 (restB (l.take i)).length 0), (54, .ro d (.pr 15 (l.map Pm.pay)) 2), (55, .int .i64 (l.length : Nat)), (56, .int .i64 (i : Nat))]
def p2Hp (ob0 : AM.Obj) (i o j : Nat) (H : AM.Heap) : Prop :=
  ∃ obT obr, H[K]? = some (some ob0) ∧ H[K + 1]? = some (some (bitO m8 (bitN (nulP l) 0 (zer m8) j))) ∧ H[K + 2]? = some (some obT) ∧ Rw (.pb (tysB (l.take i))) i obT ∧ K + 3 ≤ o ∧ H[o]? = some (some obr) ∧ Rw (.pb (restB (l.take i))) 0 obr

/-- a frame within a round -/
def p2Fb (i o : Nat) (x15 : AV) (t : Nat) (T : AV) : AM.Frame := [(2, .bool bd), (10, .sl K 0 b.length 0), (11, .sl (K + 1) 0 m8 0), (12, T), (13, .sl o 0 (restB (l.take i)).length 0), (14, .int .i64 (i : Nat)), (15, x15)] ++ (if t = 0 then [] else [(16, .int .u8 ((t - 1 : Nat) : Int))]) ++ [(54, .ro d (.pr 15 (l.map Pm.pay)) 2), (55, .int .i64 (l.length : Nat)), (56, .int .i64 (i : Nat))]

set_option maxRecDepth 100000 in
set_option maxHeartbeats 4000000 in
/-- a round: the parameter's own place, its sign, its type -/
theorem p2_ty (ob0 : AM.Obj) (i o : Nat) (p : Pm) (H : AM.Heap) (hn : l.length ≤ 65535) (hp : l[i]? = some p) (ho : p.ok) (hH : p2Hp l K m8 ob0 i o i H) (Q : AM.Out → Prop)
    (next : ∀ H' obT obr, H'[K]? = some (some ob0) → H'[K + 1]? = some (some (bitO m8 (bitN (nulP l) 0 (zer m8) i))) → H'[K + 2]? = some (some obT) → Rw (.pb (tysB (l.take (i + 1)))) (i + 1) obT → K + 3 ≤ o → H'[o]? = some (some obr) → Rw (.pb (restB (l.take i))) 0 obr → H'[H.length]? = some (some (pmO p)) → K + 3 ≤ H.length →
      ∃ code, ((Try.f8.body).bind (codeAt [1, 1, 1, 1, 1, 1, 1, 0, 1, 0, 0, 1, 1, 0, 0, 1, 1, 1, 1])) = some code ∧ Tells Q X (evT X) 8 0 code (p2Fb b d l bd K m8 i o (.ptr H.length 0 0 0) 0 (.sl (K + 2) 0 (tysB (l.take (i + 1))).length (i + 1))) H') :
    ∃ code, ((Try.f8.body).bind (codeAt [1, 1, 1, 1, 1, 1, 1, 0, 1, 0, 0, 1, 1, 0, 0])) = some code ∧
    Tells Q X (evT X) 8 0 code (p2Fr b d l bd K m8 i o ++ [(57, .bool true)]) H := by
  refine ⟨_, rfl, ?_⟩
  obtain ⟨obT, obr, h0, h1, h2, hT, hoK, h3, hr⟩ := hH
  obtain ⟨o1, o2, o3⟩ := ho
  have hK := at_lt h2
  have hrow : (l.map Pm.pay)[i]? = some p.pay := by rw [List.getElem?_map, hp]; rfl
  have hLl : (l.map Pm.pay).length = l.length := List.length_map _
  have hlt : i < l.length := at_lt hp
  have hnew : ∀ x : Option AM.Obj, (H ++ [x])[H.length]? = some x := fun x => by simp
  unfold p2Fr
  apply Tells.seq (fr' := p2Fb b d l bd K m8 i o (.ptr H.length 0 0 0) 0 (.sl (K + 2) 0 (tysB (l.take i)).length i)) (H' := H ++ [some (pmO p)])
  · unfold p2Fb
    generalize l.map Pm.pay = L at *
    simp only [Pm.pay] at hrow
    (refine ⟨0, ?_⟩; simp (maxSteps := 2000000) -implicitDefEqProofs [-getElem?_pos, List.getElem?_cons_zero, List.getElem?_cons_succ, go_sem, eqV, plen, loadV, storeV, p2Fb, hlt, hLl, hrow, pmO, Pm.pay, retagL, retag, retagP, flatCells, splice, scalars, scalar, hnew, mkPm, mkVa, mkTy, assignV])
  apply Tells.seq (fr' := p2Fb b d l bd K m8 i o (.ptr H.length 0 0 0) 1 (.sl (K + 2) 0 (tysB (l.take i)).length i)) (H' := H ++ [some (pmO p)])
  · (refine ⟨0, ?_⟩; simp (maxSteps := 2000000) -implicitDefEqProofs [-getElem?_pos, List.getElem?_cons_zero, List.getElem?_cons_succ, go_sem, eqV, plen, loadV, storeV, p2Fb])
  apply Tells.andThen (P := fun fr H' => H' = H ++ [some (pmO p)] ∧ ∃ tl, fr = p2Fb b d l bd K m8 i o (.ptr H.length 0 0 0) (sgn p + 1) (.sl (K + 2) 0 (tysB (l.take i)).length i) ++ tl)
  · cases hu : p.t.u with
    | true =>
      refine Tells.of (o := ⟨.normal, p2Fb b d l bd K m8 i o (.ptr H.length 0 0 0) 129 (.sl (K + 2) 0 (tysB (l.take i)).length i), _⟩) ⟨0, ?_⟩ ⟨rfl, rfl, [], by unfold sgn; rw [hu]; simp⟩
      simp (maxSteps := 2000000) -implicitDefEqProofs [-getElem?_pos, List.getElem?_cons_zero, List.getElem?_cons_succ, go_sem, eqV, plen, loadV, storeV, p2Fb, hnew, pmO, Pm.pay, hu]
    | false =>
      refine Tells.of (o := ⟨.normal, p2Fb b d l bd K m8 i o (.ptr H.length 0 0 0) 1 (.sl (K + 2) 0 (tysB (l.take i)).length i) ++ [(63, .bool false)], _⟩) ⟨0, ?_⟩ ⟨rfl, rfl, [(63, .bool false)], by unfold sgn; rw [hu]; simp⟩
      simp (maxSteps := 2000000) -implicitDefEqProofs [-getElem?_pos, List.getElem?_cons_zero, List.getElem?_cons_succ, go_sem, eqV, plen, loadV, storeV, p2Fb, hnew, pmO, Pm.pay, hu]
  rintro fr H' ⟨rfl, tl, rfl⟩
  have hs : sgn p < 256 := by unfold sgn; split <;> omega
  have htl := tysB_len (l.take i)
  have hi2 : (l.take i).length = i := by rw [List.length_take]; omega
  obtain ⟨ob1, hw1, hA⟩ := app_b (H := H ++ [some (pmO p)]) (o := K + 2) (m := tyB p) (src := .ro 1 (.pb (tyB p)) 0) (at_cat h2) hT (.inl rfl) (by rw [htl, hi2]; simp [tyB]; omega)
  have hbs := fun H => bs2n H p.t.t (sgn p) o1 hs
  have hcat := take_cat tyB hp
  have hcl : (tysB (l.take (i + 1))).length = (tysB (l.take i)).length + (tyB p).length := by
    show ((l.take (i + 1)).flatMap tyB).length = _
    rw [hcat, List.length_append]; rfl
  apply Tells.seq (fr' := p2Fb b d l bd K m8 i o (.ptr H.length 0 0 0) 0 (.sl (K + 2) 0 (tysB (l.take (i + 1))).length (i + 1))) (H' := upd (H ++ [some (pmO p)]) (K + 2) (some ob1))
  · rw [hcl]
    rw [show ([UInt8.ofNat p.t.t, UInt8.ofNat (sgn p)] : List UInt8) = tyB p from rfl] at hbs
    generalize tyB p = ty at *
    generalize sgn p = sg at *
    simp only [pmO, Pm.pay] at hA
    (refine ⟨0, ?_⟩; simp (maxSteps := 2000000) -implicitDefEqProofs [-getElem?_pos, List.getElem?_cons_zero, List.getElem?_cons_succ, go_sem, eqV, plen, loadV, storeV, p2Fb, hnew, pmO, Pm.pay, hbs, hA, assignV])
  refine piece (next (upd (H ++ [some (pmO p)]) (K + 2) (some ob1)) ob1 obr (at_ne (at_cat h0) (by omega)) (at_ne (at_cat h1) (by omega)) (at_set (at_cat h2)) ?_ hoK (at_ne (at_cat h3) (by omega)) hr (at_ne (hnew _) (by omega)) (by omega)) _ rfl
  show Rw (.pb ((l.take (i + 1)).flatMap tyB)) (i + 1) ob1
  rw [hcat]; exact hw1

/-- behind a round's choice -/
def p2Fc (i o : Nat) (m : AM.Frame) (tl : AM.Frame) : AM.Frame := [(2, .bool bd), (10, .sl K 0 b.length 0), (11, .sl (K + 1) 0 m8 0), (12, .sl (K + 2) 0 (tysB (l.take (i + 1))).length (i + 1)), (13, .sl o 0 (restB (l.take (i + 1))).length 0)] ++ m ++ [(54, .ro d (.pr 15 (l.map Pm.pay)) 2), (55, .int .i64 (l.length : Nat)), (56, .int .i64 (i : Nat))] ++ tl

set_option maxRecDepth 100000 in
set_option maxHeartbeats 4000000 in
/-- a round: the parameter's bit, or its value -/
theorem p2_val (ob0 obT obr : AM.Obj) (i o : Nat) (p : Pm) (H : AM.Heap) (k : Nat) (hn : l.length ≤ 65535) (hm : l.length ≤ 8 * m8) (hR : (restB l).length ≤ 1000000) (hp : l[i]? = some p) (ho : p.ok) (hok : p.bad = false)
    (h0 : H[K]? = some (some ob0)) (h1 : H[K + 1]? = some (some (bitO m8 (bitN (nulP l) 0 (zer m8) i)))) (h2 : H[K + 2]? = some (some obT)) (hT : Rw (.pb (tysB (l.take (i + 1)))) (i + 1) obT) (hoK : K + 3 ≤ o) (h3 : H[o]? = some (some obr)) (hr : Rw (.pb (restB (l.take i))) 0 obr) (h4 : H[k]? = some (some (pmO p))) (hk : K + 3 ≤ k) :
    ∃ code, ((Try.f8.body).bind (codeAt [1, 1, 1, 1, 1, 1, 1, 0, 1, 0, 0, 1, 1, 0, 0, 1, 1, 1, 1])) = some code ∧
      Tells (Goes fun fr H' => ∃ o' m tl, p2Hp l K m8 ob0 (i + 1) o' (i + 1) H' ∧ fr = p2Fc b d l bd K m8 i o' m tl ∧ ((m = [(14, .int .i64 (i : Nat)), (15, .ptr k 0 0 0)] ∧ tl = [(80, .bool true)]) ∨ (m = [] ∧ tl = []))) X (evT X) 8 0 code (p2Fb b d l bd K m8 i o (.ptr k 0 0 0) 0 (.sl (K + 2) 0 (tysB (l.take (i + 1))).length (i + 1))) H := by
  refine ⟨_, rfl, ?_⟩
  apply Tells.blk (hq := fun o h => by rw [h.1]; simp)
  obtain ⟨o1, o2, o3⟩ := ho
  have hlt : i < l.length := at_lt hp
  have hcat := take_cat paE hp
  have hrb : restB (l.take (i + 1)) = restB (l.take i) ++ paE p := hcat
  have hnul : nulP l i = (!p.lg && decide (p.v.k = 0)) := by unfold nulP; rw [hp]
  unfold Pm.bad at hok
  simp only [Bool.or_eq_false_iff, decide_eq_false_iff_not, ne_eq, Decidable.not_not, Bool.and_eq_false_iff] at hok
  obtain ⟨hck, hlk⟩ := hok
  have hsame : paE p = [] → nulP l i = false → p2Hp l K m8 ob0 (i + 1) o (i + 1) H := by
    intro he hnl
    refine ⟨obT, obr, h0, ?_, h2, hT, hoK, h3, ?_⟩
    · unfold bitN; rw [hnl]; exact h1
    · rw [hrb, he, List.append_nil]; exact hr
  apply Tells.seq (fr' := p2Fb b d l bd K m8 i o (.ptr k 0 0 0) 0 (.sl (K + 2) 0 (tysB (l.take (i + 1))).length (i + 1)) ++ [(80, .bool p.lg)]) (H' := H)
  · (refine ⟨0, ?_⟩; simp (maxSteps := 2000000) -implicitDefEqProofs [-getElem?_pos, List.getElem?_cons_zero, List.getElem?_cons_succ, go_sem, eqV, plen, loadV, storeV, p2Fb, h4, pmO, Pm.pay])
  cases hlg : p.lg with
  | true =>
    apply Tells.condT (by simp [evalO, getF, p2Fb])
    have he : paE p = [] := by unfold paE; rw [if_pos (.inl hlg)]
    refine Tells.of (o := ⟨.normal, _, _⟩) ⟨0, rfl⟩ ⟨rfl, o, _, _, hsame he (by rw [hnul, hlg]; rfl), ?_, .inl ⟨rfl, rfl⟩⟩
    simp [p2Fb, p2Fc, hrb, he]
  | false =>
  apply Tells.condF (by simp [evalO, getF, p2Fb])
  by_cases hk0 : p.v.k = 0
  · -- nothing
    apply Tells.seq (fr' := p2Fb b d l bd K m8 i o (.ptr k 0 0 0) 0 (.sl (K + 2) 0 (tysB (l.take (i + 1))).length (i + 1)) ++ [(83, .bool true)]) (H' := H)
    · (refine ⟨0, ?_⟩; simp (maxSteps := 2000000) -implicitDefEqProofs [-getElem?_pos, List.getElem?_cons_zero, List.getElem?_cons_succ, go_sem, eqV, plen, loadV, storeV, p2Fb, h4, pmO, Pm.pay, hk0])
    apply Tells.condT (by simp [evalO, getF, p2Fb])
    have he : paE p = [] := by unfold paE; rw [if_pos (.inr hk0)]
    have hbl := bitN_len (nulP l) 0 (zer m8) i
    have hzl : (zer m8).length = m8 := by simp [zer]
    have hi8 : i / 8 < (bitN (nulP l) 0 (zer m8) i).length := by omega
    have hnx : bitN (nulP l) 0 (zer m8) (i + 1) = (bitN (nulP l) 0 (zer m8) i).set (i / 8) (orB ((bitN (nulP l) 0 (zer m8) i).getD (i / 8) 0) (i % 8)) := by
      rw [bitN, hnul, hlg, hk0]; rfl
    generalize bitN (nulP l) 0 (zer m8) i = bs at *
    obtain ⟨y, hy⟩ : ∃ y, bs[i / 8]? = some y := ⟨_, List.getElem?_eq_getElem hi8⟩
    rw [show bs.getD (i / 8) 0 = y by rw [List.getD, hy]; rfl] at hnx
    have hor := or_bit (y := y) (j := i % 8) (Nat.mod_lt _ (by omega))
    have hsh := shl1 (j := i % 8) (Nat.mod_lt _ (by omega))
    have e1 : Int.tdiv (i : Int) 8 = ((i / 8 : Nat) : Int) := by rw [Int.tdiv_eq_ediv_of_nonneg (by omega)]; omega
    have e2 : Int.tmod (i : Int) 8 = ((i % 8 : Nat) : Int) := by rw [Int.tmod_eq_emod_of_nonneg (by omega)]; omega
    have e3 : (i : Int) / 8 = ((i / 8 : Nat) : Int) := by omega
    have e4 : (i : Int) % 8 = ((i % 8 : Nat) : Int) := by omega
    have w1 : IntKind.i64.wrap ((i / 8 : Nat) : Int) = ((i / 8 : Nat) : Int) := wrap_i64 (by omega) (by omega)
    have hb8 : i / 8 < m8 := by omega
    have hb8i : ((i / 8 : Nat) : Int) < (m8 : Int) := by omega
    have hr0 : ¬ ((i % 8 : Nat) : Int) < 0 := by omega
    have hr8 : i % 8 < 8 := Nat.mod_lt _ (by omega)
    have yo : UInt8.ofNat (orB y (i % 8)).toNat = orB y (i % 8) := by simp
    have yl : ((orB y (i % 8)).toNat : Int) < 256 := by have := (orB y (i % 8)).toNat_lt; omega
    generalize i / 8 = q at *
    generalize i % 8 = r at *
    generalize orB y r = z at *
    generalize 2 ^ r = pw at *
    have hor2 := hor
    simp only [go_sem] at hor2
    simp only [BitVec.toNat_or] at hor
    refine Tells.of (o := ⟨.normal, p2Fc b d l bd K m8 i o [] [], upd H (K + 1) (some (bitO m8 (bs.set q z)))⟩) ?_ ⟨rfl, o, [], [], ⟨obT, obr, at_ne h0 (by omega), ?_, at_ne h2 (by omega), hT, hoK, at_ne h3 (by omega), ?_⟩, rfl, .inr ⟨rfl, rfl⟩⟩
    · unfold p2Fc
      rw [hrb, he, List.append_nil]
      (refine ⟨0, ?_⟩; simp (maxSteps := 2000000) -implicitDefEqProofs [-getElem?_pos, List.getElem?_cons_zero, List.getElem?_cons_succ, go_sem, eqV, plen, loadV, storeV, p2Fb, h1, bitO, e1, e2, e3, e4, w1, hb8, hb8i, hi8, hy, hsh, hr0, hor, hor2, yo, yl, show IntKind.u8.bits = 8 from rfl])
    · rw [hnx]; exact at_set h1
    · rw [hrb, he, List.append_nil]; exact hr
  · -- a value
    have hkb : (p.v.k == 0) = false := by simpa using hk0
    apply Tells.seq (fr' := p2Fb b d l bd K m8 i o (.ptr k 0 0 0) 0 (.sl (K + 2) 0 (tysB (l.take (i + 1))).length (i + 1)) ++ [(83, .bool false)]) (H' := H)
    · (refine ⟨0, ?_⟩; simp (maxSteps := 2000000) -implicitDefEqProofs [-getElem?_pos, List.getElem?_cons_zero, List.getElem?_cons_succ, go_sem, eqV, plen, loadV, storeV, p2Fb, h4, pmO, Pm.pay, hkb])
    apply Tells.condF (by simp [evalO, getF, p2Fb])
    have hrl := restB_le l i
    obtain ⟨ob1, hw1, hA⟩ := vappend_ev (v := p.v) (t := p.t) (Byt.whole h3 hr) (by omega) o1 o2 o3
    have hap : apV (restB (l.take i)) p.v p.t = (restB (l.take (i + 1)), 0) := by
      unfold apV
      rw [if_pos (by unfold apOk; rw [hck]; simp [hk0]), hrb]
      unfold paE
      rw [if_neg (by rw [hlg]; simp [hk0])]
    rw [hap] at hA hw1
    refine Tells.of (o := ⟨.normal, p2Fc b d l bd K m8 i H.length [] [], H ++ [some ob1]⟩) ?_ ⟨rfl, H.length, [], [], ⟨obT, ob1, at_cat h0, ?_, at_cat h2, hT, ?_, by simp, hw1⟩, rfl, .inr ⟨rfl, rfl⟩⟩
    · simp only [Va.pay, Ty.pay] at hA
      unfold p2Fc
      generalize (restB (l.take (i + 1))).length = n1 at *
      (refine ⟨0, ?_⟩; simp (maxSteps := 2000000) -implicitDefEqProofs [-getElem?_pos, List.getElem?_cons_zero, List.getElem?_cons_succ, go_sem, eqV, plen, loadV, storeV, p2Fb, h4, pmO, Pm.pay, mkVa, mkTy, hA, assignV])
    · unfold bitN; rw [hnul, hlg]; simp [hk0]; exact at_cat h1
    · have := at_lt h4; omega

set_option maxRecDepth 100000 in
set_option maxHeartbeats 4000000 in
theorem p2_loop (ob0 : AM.Obj) (o : Nat) (H : AM.Heap) (hn : l.length ≤ 65535) (hm : l.length ≤ 8 * m8) (hR : (restB l).length ≤ 1000000) (hl : ∀ p ∈ l, p.ok) (hok : ∀ p ∈ l, p.bad = false) (hH : p2Hp l K m8 ob0 0 o 0 H) :
    ∃ code, ((Try.f8.body).bind (codeAt [1, 1, 1, 1, 1, 1, 1, 0, 1])) = some code ∧
      Tells (Goes fun fr H => ∃ o, p2Hp l K m8 ob0 l.length o l.length H ∧ fr = p2Fr b d l bd K m8 l.length o ++ [(57, .bool false)]) X (evT X) 8 0 code (p2Fr b d l bd K m8 0 o) H := by
  refine ⟨_, rfl, ?_⟩
  apply Tells.block
  refine Tells.loopP (fun k fr H => ∃ i o, k = l.length - i ∧ i ≤ l.length ∧ p2Hp l K m8 ob0 i o i H ∧ fr = p2Fr b d l bd K m8 i o) ?_ (k := l.length) ⟨0, o, rfl, by omega, hH, rfl⟩
  rintro k fr H ⟨i, o, rfl, hi, hH, rfl⟩
  by_cases hin : i = l.length
  · subst hin
    refine Tells.of (o := ⟨.exit 2, p2Fr b d l bd K m8 l.length o ++ [(57, .bool false)], H⟩) ⟨0, ?_⟩ (.inr ⟨by simp, rfl, o, hH, rfl⟩)
    simp (maxSteps := 2000000) -implicitDefEqProofs [-getElem?_pos, List.getElem?_cons_zero, List.getElem?_cons_succ, go_sem, eqV, plen, loadV, storeV, p2Fr]
  have hlt : i < l.length := by omega
  have hiI : (i : Int) < (l.length : Int) := by omega
  obtain ⟨p, hp⟩ : ∃ p, l[i]? = some p := ⟨_, List.getElem?_eq_getElem hlt⟩
  have hmem := List.mem_of_getElem? hp
  apply Tells.seq (fr' := p2Fr b d l bd K m8 i o ++ [(57, .bool true)]) (H' := H)
  · (refine ⟨0, ?_⟩; simp (maxSteps := 2000000) -implicitDefEqProofs [-getElem?_pos, List.getElem?_cons_zero, List.getElem?_cons_succ, go_sem, eqV, plen, loadV, storeV, p2Fr, hiI])
  apply Tells.seq (fr' := p2Fr b d l bd K m8 i o ++ [(57, .bool true)]) (H' := H)
  · refine condT (by simp [evalO, getF, p2Fr]) ?_
    exact ⟨0, rfl⟩
  apply Tells.andThen (P := fun fr H' => ∃ o' m tl, p2Hp l K m8 ob0 (i + 1) o' (i + 1) H' ∧ fr = p2Fc b d l bd K m8 i o' m tl ∧ ((∃ k, m = [(14, .int .i64 (i : Nat)), (15, .ptr k 0 0 0)] ∧ tl = [(80, .bool true)]) ∨ (m = [] ∧ tl = [])))
  · apply Tells.blk (hq := fun o h => by rw [h.1]; simp)
    refine piece (p2_ty b d l bd K m8 ob0 i o p H hn hp (hl p hmem) hH _ ?_) _ rfl
    intro H' obT obr h0 h1 h2 hT hoK h3 hr h4 hk
    obtain ⟨code, hc, ht⟩ := p2_val b d l bd K m8 ob0 obT obr i o p H' H.length hn hm hR hp (hl p hmem) (hok p hmem) h0 h1 h2 hT hoK h3 hr h4 hk
    refine ⟨code, hc, ht.mono ?_⟩
    rintro o ⟨q1, o', m, tl, q2, q3, q4⟩
    refine ⟨q1, o', m, tl, q2, q3, ?_⟩
    rcases q4 with q4 | q4
    · exact .inl ⟨_, q4⟩
    · exact .inr q4
  rintro fr H' ⟨o', m, tl, q2, rfl, q4⟩
  have w1 : IntKind.i64.wrap ((i : Int) + 1) = ((i + 1 : Nat) : Int) := by rw [wrap_i64 (by omega) (by omega)]; omega
  refine Tells.of (o := ⟨.normal, p2Fr b d l bd K m8 (i + 1) o', H'⟩) ⟨0, ?_⟩ (.inl ⟨rfl, l.length - (i + 1), by omega, i + 1, o', rfl, by omega, q2, rfl⟩)
  rcases q4 with ⟨k, rfl, rfl⟩ | ⟨rfl, rfl⟩
  · simp (maxSteps := 2000000) -implicitDefEqProofs [-getElem?_pos, List.getElem?_cons_zero, List.getElem?_cons_succ, go_sem, eqV, plen, loadV, storeV, p2Fc, p2Fr, w1]
  · simp (maxSteps := 2000000) -implicitDefEqProofs [-getElem?_pos, List.getElem?_cons_zero, List.getElem?_cons_succ, go_sem, eqV, plen, loadV, storeV, p2Fc, p2Fr, w1]

end

/-- an execute's bytes -/
def paB (l : List Pm) (bd : Bool) : List UInt8 := bitN (nulP l) 0 (zer ((l.length + 7) / 8)) l.length ++ (if bd then 1 :: tysB l else [0]) ++ restB l

theorem srcW {H : AM.Heap} {o g n : Nat} {ob : AM.Obj} {l : List UInt8} (ho : H[o]? = some (some ob)) (h : Rw (.pb l) g ob) (hn : n = l.length) : srcV H (.sl o 0 n g) = some (.pb l, 0) := by
  subst hn
  simp [srcV, live, ho, h.g, h.ids, h.p, psub, payB, ptag]

section
variable (b : List UInt8) (d : Nat) (l : List Pm) (bd : Bool) (K : Nat)

set_option maxRecDepth 100000 in
set_option maxHeartbeats 4000000 in
theorem p2_tail (m8 : Nat) (hm8 : m8 = (l.length + 7) / 8) (ob0 : AM.Obj) (H : AM.Heap) (hw0 : Rw (.pb b) 0 ob0) (hb : b.length ≤ 2000000) (hn : l.length ≤ 65535) (hR : (restB l).length ≤ 1000000) (hl : ∀ p ∈ l, p.ok) (hok : ∀ p ∈ l, p.bad = false) (h0 : H[K]? = some (some ob0)) (h1 : H[K + 1]? = some (some (bitO m8 (zer m8)))) (hK : H.length = K + 2) :
    ∃ code, ((Try.f8.body).bind (codeAt [1, 1, 1, 1, 1, 1])) = some code ∧
      Tells (Rets fun fr H => ∃ o g ob, getF fr 6 = .sl o 0 (b ++ paB l bd).length g ∧ getF fr 7 = .int .i64 0 ∧ H[o]? = some (some ob) ∧ Rw (.pb (b ++ paB l bd)) g ob) X (evT X) 8 0 code [(1, .ro d (pmL l) 2), (2, .bool bd), (10, .sl K 0 b.length 0), (11, .sl (K + 1) 0 m8 0)] H := by
  refine ⟨_, rfl, ?_⟩
  unfold pmL
  have hLl : (l.map Pm.pay).length = l.length := List.length_map _
  apply Tells.seq (fr' := [(1, .ro d (.pr 15 (l.map Pm.pay)) 2), (2, .bool bd), (10, .sl K 0 b.length 0), (11, .sl (K + 1) 0 m8 0), (12, .sl (K + 2) 0 0 0), (13, .sl (K + 3) 0 0 0)]) (H' := H ++ [some nilB] ++ [some nilB])
  · (refine ⟨0, ?_⟩; simp (maxSteps := 2000000) -implicitDefEqProofs [-getElem?_pos, List.getElem?_cons_zero, List.getElem?_cons_succ, go_sem, eqV, plen, loadV, storeV, assignV, emB, hK])
  apply Tells.assoc
  apply Tells.seq (fr' := p2Fr b d l bd K m8 0 (K + 3)) (H' := H ++ [some nilB] ++ [some nilB])
  · have t0 : (tysB (l.take 0)).length = 0 := rfl
    have r0 : (restB (l.take 0)).length = 0 := rfl
    unfold p2Fr
    rw [t0, r0]
    generalize l.map Pm.pay = L at *
    (refine ⟨0, ?_⟩; simp (maxSteps := 2000000) -implicitDefEqProofs [-getElem?_pos, List.getElem?_cons_zero, List.getElem?_cons_succ, go_sem, eqV, plen, loadV, storeV, hLl])
  have hm : l.length ≤ 8 * m8 := by omega
  have hH0 : p2Hp l K m8 ob0 0 (K + 3) 0 (H ++ [some nilB] ++ [some nilB]) :=
    ⟨nilB, nilB, at_cat (at_cat h0), at_cat (at_cat h1), by rw [← hK]; simp, nilB_rw, by omega, by rw [show K + 3 = (H ++ [some nilB]).length by simp [hK]]; simp, nilB_rw⟩
  apply Tells.andThen (P := fun fr H => ∃ o, p2Hp l K m8 ob0 l.length o l.length H ∧ fr = p2Fr b d l bd K m8 l.length o ++ [(57, .bool false)])
  · exact piece (p2_loop b d l bd K m8 ob0 (K + 3) _ hn hm hR hl hok hH0) _ rfl
  rintro fr H' ⟨o, ⟨obT, obr, q0, q1, q2, hT, hoK, q3, hr⟩, rfl⟩
  unfold p2Fr
  rw [List.take_length] at hT hr ⊢
  have hbl : (bitN (nulP l) 0 (zer m8) l.length).length = m8 := by rw [bitN_len]; simp [zer]
  have hpa : paB l bd = bitN (nulP l) 0 (zer m8) l.length ++ (if bd then 1 :: tysB l else [0]) ++ restB l := by unfold paB; rw [hm8]
  have htl := tysB_len l
  rw [hpa]
  generalize bitN (nulP l) 0 (zer m8) l.length = bs at *
  have hwb : Rw (.pb bs) 0 (bitO m8 bs) := ⟨rfl, rfl, rfl, rfl, rfl⟩
  obtain ⟨ob1, hw1, hA1⟩ := app_b (H := H') (o := K) (m := bs) (src := .sl (K + 1) 0 m8 0) q0 hw0 (.inl (srcW q1 hwb hbl.symm)) (by omega)
  rw [hbl] at hA1
  apply Tells.seq (fr' := [(2, .bool bd), (10, .sl K 0 (b.length + m8) 1), (12, .sl (K + 2) 0 (tysB l).length l.length), (13, .sl o 0 (restB l).length 0)]) (H' := upd H' K (some ob1))
  · generalize (tysB l).length = n1 at *
    generalize (restB l).length = n2 at *
    generalize l.map Pm.pay = L at *
    (refine ⟨0, ?_⟩; simp (maxSteps := 2000000) -implicitDefEqProofs [-getElem?_pos, List.getElem?_cons_zero, List.getElem?_cons_succ, go_sem, eqV, plen, loadV, storeV, hA1, assignV])
  have l1 : (b ++ bs).length = b.length + m8 := by rw [List.length_append, hbl]
  have q2' : (upd H' K (some ob1))[K + 2]? = some (some obT) := at_ne q2 (by omega)
  have q3' : (upd H' K (some ob1))[o]? = some (some obr) := at_ne q3 (by omega)
  have q0' : (upd H' K (some ob1))[K]? = some (some ob1) := at_set q0
  generalize upd H' K (some ob1) = H1 at *
  apply Tells.andThen (P := fun fr H2 => ∃ g ob, fr = [(10, .sl K 0 (b ++ bs ++ (if bd then 1 :: tysB l else [0])).length g), (13, .sl o 0 (restB l).length 0)] ∧ H2[K]? = some (some ob) ∧ Rw (.pb (b ++ bs ++ (if bd then 1 :: tysB l else [0]))) g ob ∧ H2[o]? = some (some obr))
  · cases bd with
    | true =>
      have hbs := fun H => bsK H 1 1 rfl
      obtain ⟨ob2, hw2, hA2⟩ := app_b (H := H1) (o := K) (m := [1]) (src := .ro 1 (.pb [1]) 0) q0' hw1 (.inl rfl) (by simp; omega)
      rw [l1] at hA2
      have l2 : (b ++ bs ++ [1]).length = b.length + m8 + 1 := by rw [List.length_append, l1]; rfl
      obtain ⟨ob3, hw3, hA3⟩ := app_b (H := upd H1 K (some ob2)) (o := K) (m := tysB l) (src := .sl (K + 2) 0 (tysB l).length l.length) (at_set q0') hw2 (.inl (srcW (at_ne q2' (by omega)) hT rfl)) (by simp; omega)
      rw [l2] at hA3
      refine Tells.of (o := ⟨.normal, [(10, .sl K 0 (b.length + m8 + 1 + (tysB l).length) 3), (13, .sl o 0 (restB l).length 0)], upd (upd H1 K (some ob2)) K (some ob3)⟩) ⟨0, ?_⟩ ⟨rfl, 3, ob3, ?_, at_set (at_set q0'), ?_, at_ne (at_ne q3' (by omega)) (by omega)⟩
      · simp only [List.length_cons, List.length_nil, Nat.zero_add, upd] at hA2 hA3
        generalize (tysB l).length = n1 at *
        generalize (restB l).length = n2 at *
        simp (maxSteps := 2000000) -implicitDefEqProofs [-getElem?_pos, List.getElem?_cons_zero, List.getElem?_cons_succ, go_sem, eqV, plen, loadV, storeV, hbs, hA2, hA3, assignV]
      · simp; omega
      · rw [if_pos rfl]
        rw [show b ++ bs ++ 1 :: tysB l = b ++ bs ++ [1] ++ tysB l by simp]; exact hw3
    | false =>
      have hbs := fun H => bsK H 0 0 rfl
      obtain ⟨ob2, hw2, hA2⟩ := app_b (H := H1) (o := K) (m := [0]) (src := .ro 1 (.pb [0]) 0) q0' hw1 (.inl rfl) (by simp; omega)
      rw [l1] at hA2
      refine Tells.of (o := ⟨.normal, [(10, .sl K 0 (b.length + m8 + 1) 2), (13, .sl o 0 (restB l).length 0)], upd H1 K (some ob2)⟩) ⟨0, ?_⟩ ⟨rfl, 2, ob2, ?_, at_set q0', hw2, at_ne q3' (by omega)⟩
      · simp only [List.length_cons, List.length_nil, Nat.zero_add, upd] at hA2
        generalize (tysB l).length = n1 at *
        generalize (restB l).length = n2 at *
        simp (maxSteps := 2000000) -implicitDefEqProofs [-getElem?_pos, List.getElem?_cons_zero, List.getElem?_cons_succ, go_sem, eqV, plen, loadV, storeV, hbs, hA2, assignV]
      · simp; omega
  rintro fr H2 ⟨g, ob, rfl, r0, hw, r3⟩
  have hle : (b ++ bs ++ (if bd then 1 :: tysB l else [0])).length ≤ 3000000 := by
    have : (if bd then 1 :: tysB l else [0]).length ≤ 1 + (tysB l).length := by split <;> simp <;> omega
    rw [List.length_append, l1]; omega
  obtain ⟨ob4, hw4, hA4⟩ := app_b (H := H2) (o := K) (m := restB l) (src := .sl o 0 (restB l).length 0) r0 hw (.inl (srcW r3 hr rfl)) (by omega)
  refine Tells.of (o := ⟨.ret, [(6, .sl K 0 ((b ++ bs ++ (if bd then 1 :: tysB l else [0])).length + (restB l).length) (g + 1)), (7, .int .i64 0)], upd H2 K (some ob4)⟩) ⟨0, ?_⟩ ⟨rfl, K, g + 1, ob4, ?_, rfl, at_set r0, ?_⟩
  · generalize (b ++ bs ++ (if bd then 1 :: tysB l else [0])).length = n1 at *
    generalize (restB l).length = n2 at *
    simp (maxSteps := 2000000) -implicitDefEqProofs [-getElem?_pos, List.getElem?_cons_zero, List.getElem?_cons_succ, go_sem, eqV, plen, loadV, storeV, hA4, assignV]
  · simp only [getF, List.append_assoc, List.length_append]; simp; omega
  · simp only [List.append_assoc] at hw4 ⊢
    exact hw4

end
end Go.Proofs.Ytbmddnokokoofaa

/- Plain: bits that are set are found; types that are told are read. -/
namespace Go.Proofs.Ytbmddnokokoofaa
open Go.AM
set_option linter.unusedSimpArgs false
set_option linter.unusedVariables false

theorem bitB_test (b : List UInt8) (i : Nat) : bitB b i = (b.getD (i / 8) 0).toNat.testBit (i % 8) := by
  unfold bitB
  rw [Nat.testBit_eq_decide_div_mod_eq]
  by_cases h : (b.getD (i / 8) 0).toNat / 2 ^ (i % 8) % 2 = 1
  · rw [h]; rfl
  · rw [decide_eq_false h]; exact beq_eq_false_iff_ne.2 h

theorem bit_set {x : List UInt8} {n i : Nat} (hn : n / 8 < x.length) : bitB (x.set (n / 8) (orB (x.getD (n / 8) 0) (n % 8))) i = (decide (i = n) || bitB x i) := by
  rw [bitB_test, bitB_test]
  by_cases hq : i / 8 = n / 8
  · rw [hq]
    have : (x.set (n / 8) (orB (x.getD (n / 8) 0) (n % 8))).getD (n / 8) 0 = orB (x.getD (n / 8) 0) (n % 8) := by
      rw [List.getD, List.getElem?_set_self hn]; rfl
    rw [this, orB_toNat (Nat.mod_lt _ (by omega)), Nat.testBit_or, Nat.testBit_two_pow, Bool.or_comm]
    congr 1
    by_cases h : n % 8 = i % 8
    · rw [decide_eq_true h, decide_eq_true (by omega)]
    · rw [decide_eq_false h, decide_eq_false (by omega)]
  · have : (x.set (n / 8) (orB (x.getD (n / 8) 0) (n % 8))).getD (i / 8) 0 = x.getD (i / 8) 0 := by
      rw [List.getD, List.getElem?_set_ne (by omega)]; rfl
    rw [this, decide_eq_false (by omega), Bool.false_or]

theorem bit_zer (m i : Nat) : bitB (zer m) i = false := by
  rw [bitB_test]
  have : (zer m).getD (i / 8) 0 = 0 := by
    unfold zer
    rw [List.getD, List.getElem?_replicate]
    split <;> rfl
  rw [this]; simp

theorem bit_bitN (f : Nat → Bool) {m : Nat} : ∀ (n i : Nat), n ≤ 8 * m → bitB (bitN f 0 (zer m) n) i = (decide (i < n) && f i)
  | 0, i, _ => by rw [bitN, bit_zer, decide_eq_false (by omega), Bool.false_and]
  | n + 1, i, h => by
    have ih := bit_bitN f (m := m) n i (by omega)
    have hl := bitN_len f 0 (zer m) n
    have hz : (zer m).length = m := by simp [zer]
    rw [bitN]
    cases hf : f n with
    | false =>
      rw [if_neg (by simp), ih]
      by_cases hi : i = n
      · subst hi; rw [hf]; simp
      · by_cases h1 : i < n
        · rw [decide_eq_true h1, decide_eq_true (by omega)]
        · rw [decide_eq_false h1, decide_eq_false (by omega)]
    | true =>
      rw [if_pos rfl, Nat.add_zero, bit_set (by omega), ih]
      by_cases hi : i = n
      · subst hi; rw [hf]; simp
      · rw [decide_eq_false hi, Bool.false_or]
        by_cases h1 : i < n
        · rw [decide_eq_true h1, decide_eq_true (by omega)]
        · rw [decide_eq_false h1, decide_eq_false (by omega)]

theorem bitB_cat {x r : List UInt8} {i : Nat} (h : i / 8 < x.length) : bitB (x ++ r) i = bitB x i := by
  unfold bitB
  rw [List.getD, List.getD, List.getElem?_append_left h]

/-- a good parameter's type is known -/
theorem ok_kn {p : Pm} (h : p.bad = false) : kn p.t.t = true := by
  unfold Pm.bad at h
  simp only [Bool.or_eq_false_iff, decide_eq_false_iff_not, ne_eq, Decidable.not_not] at h
  have h1 := h.1
  unfold chkV at h1
  by_cases hk : kindN p.t.t p.t.u < 0
  · rw [if_pos hk] at h1; cases h1
  · unfold kindN at hk
    cases hkn : kn p.t.t with
    | true => rfl
    | false => rw [hkn, if_pos rfl] at hk; exact absurd (by decide) hk

theorem tys_at : ∀ (l : List Pm) (i : Nat) (p : Pm), l[i]? = some p → (tysB l)[2 * i]? = some (UInt8.ofNat p.t.t) ∧ (tysB l)[2 * i + 1]? = some (UInt8.ofNat (sgn p))
  | [], i, p, h => by simp at h
  | q :: l, 0, p, h => by
    simp at h
    subst h
    exact ⟨rfl, rfl⟩
  | q :: l, i + 1, p, h => by
    have := tys_at l i p (by simpa using h)
    have e : tysB (q :: l) = UInt8.ofNat q.t.t :: UInt8.ofNat (sgn q) :: tysB l := rfl
    rw [e, show 2 * (i + 1) = 2 * i + 1 + 1 by omega, show 2 * i + 1 + 1 + 1 = (2 * i + 1) + 1 + 1 by omega]
    exact this

theorem tyF_zero {b : List UInt8} : ∀ (n i : Nat), (∀ j, i ≤ j → j < i + n → tyE b j = 0) → tyF b n i = 0
  | 0, _, _ => rfl
  | n + 1, i, h => by
    rw [tyF, if_neg (by rw [h i (Nat.le_refl _) (by omega)]; simp)]
    exact tyF_zero n (i + 1) fun j h1 h2 => h j (by omega) (by omega)
theorem tyF_first {b : List UInt8} {e : Int} (he : e ≠ 0) : ∀ (n i j : Nat), i ≤ j → j < i + n → (∀ k, i ≤ k → k < j → tyE b k = 0) → tyE b j = e → tyF b n i = e
  | 0, i, j, h1, h2, _, _ => by omega
  | n + 1, i, j, h1, h2, h3, h4 => by
    rw [tyF]
    by_cases hij : i = j
    · subst hij; rw [h4, if_pos he]
    · rw [if_neg (by rw [h3 i (Nat.le_refl _) (by omega)]; simp)]
      exact tyF_first he n (i + 1) j (by omega) (by omega) (fun k a b => h3 k (by omega) b) h4

/-- one of the types that are told, within more bytes -/
theorem tyE_of {l : List Pm} {R : List UInt8} {i : Nat} {p : Pm} (hp : l[i]? = some p) (hok : p.ok) (hb : p.bad = false) : tyE (tysB l ++ R) i = 0 ∧ tyAt (tysB l ++ R) i = p.t := by
  obtain ⟨a1, a2⟩ := tys_at l i p hp
  have hk := ok_kn hb
  have ht : p.t.t < 256 := hok.1
  have hl := tysB_len l
  have hlt := at_lt hp
  have g1 : (tysB l ++ R).getD (2 * i) 0 = UInt8.ofNat p.t.t := by rw [List.getD, List.getElem?_append_left (by omega), a1]; rfl
  have g2 : (tysB l ++ R).getD (2 * i + 1) 0 = UInt8.ofNat (sgn p) := by rw [List.getD, List.getElem?_append_left (by omega), a2]; rfl
  have e1 : (UInt8.ofNat p.t.t).toNat = p.t.t := by rw [UInt8.toNat_ofNat', Nat.mod_eq_of_lt ht]
  have hs : sgn p = 0 ∨ sgn p = 128 := by unfold sgn; split <;> simp
  have e2 : (UInt8.ofNat (sgn p)).toNat = sgn p := by rw [UInt8.toNat_ofNat', Nat.mod_eq_of_lt (by omega)]
  constructor
  · unfold tyE
    rw [g1, g2, e1, e2, hk, if_neg (by rw [List.length_append]; omega), if_neg (by simp), if_neg (by rw [List.length_append]; omega), if_neg (by omega)]
  · unfold tyAt
    rw [g1, g2, e1, e2]
    cases hp : p.t with
    | mk t u =>
      unfold sgn
      rw [hp]
      cases u <;> rfl

end Go.Proofs.Ytbmddnokokoofaa
