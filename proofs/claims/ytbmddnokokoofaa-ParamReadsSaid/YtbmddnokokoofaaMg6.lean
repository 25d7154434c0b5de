/- S6 to A0: texts of this claim, one behind the other; what each shows stands at its head. -/
import Derived.Test.YtbmddnokokoofaaAm3
import Derived.Test.YtbmddnokokoofaaMg5
/- Walks: the document's reading of parameters: one behind the other. -/
namespace Go.Proofs.Ytbmddnokokoofaa
open Go.AM
set_option linter.unusedSimpArgs false
set_option linter.unusedVariables false

/-- parameters off what is left -/
def rlF (d : List UInt8) (g : List Bool) (own : List Ty) : Nat → Nat → List Pm → St → List Pm × St
  | 0, _, a, s => (a, s)
  | k + 1, i, a, s => if s.2 ≠ 0 then (a, s) else
    if lgB g i = true ∨ bitB d i = true then rlF d g own k (i + 1) (a ++ [⟨tyI own i, lgB g i, {}⟩]) (s.1, wr false s.2)
    else rlF d g own k (i + 1) (a ++ [⟨tyI own i, false, (vlF (s.1, wr (decide ((tyI own i).t = 6)) s.2) (tyI own i)).1⟩]) (vlF (s.1, wr (decide ((tyI own i).t = 6)) s.2) (tyI own i)).2

theorem vl1 {H : AM.Heap} {c : Nat} {s : St} {y : Ty} (h : H[1]? = some (some (rdO c 1 1 s))) (hc : c = 0 → s.1 = []) (hy : y.t < 256) (hb : s.1.length ≤ 90000000) :
    evT X 35 [.ptr 1 0 0 0, .agg y.pay] H = some (.agg (vlF s y).1.pay, H.set 1 (some (rdO c 1 1 (vlF s y).2))) := vl_ev h (jt c 1 s) hc hy hb

section
variable (c n : Nat) (d : List UInt8) (cg : Nat) (g : List Bool) (own : List Ty) (v : Nat)

def qrFr (i : Nat) (x : AM.Frame) : AM.Frame := [(1, .int .i64 (n : Nat)), (3, .ro cg (.pc (g.map .bool)) 4), (11, .ptr 1 0 0 0), (12, .sl 2 0 d.length 0), (14, .int .u8 (v : Nat)), (15, .sl 3 0 own.length 0), (16, .sl 4 0 i i), (17, .int .i64 (i : Nat))] ++ x
structure QrHp (H : AM.Heap) (s : St) (a : List Pm) (i : Nat) : Prop where
  h1 : H[1]? = some (some (rdO c 1 1 s))
  hc : c = 0 → s.1 = []
  h2 : ∃ ob, H[2]? = some (some ob) ∧ Rw (.pb d) 0 ob
  h3 : ∃ ob, H[3]? = some (some ob) ∧ Rw (.pr 2 (own.map Ty.pay)) 0 ob
  h4 : ∃ ob, H[4]? = some (some ob) ∧ Rw (.pr 15 (a.map Pm.pay)) i ob
theorem QrHp.push {H : AM.Heap} {s : St} {a : List Pm} {i : Nat} {x : Option AM.Obj} (h : QrHp c d own H s a i) : QrHp c d own (H ++ [x]) s a i := by
  obtain ⟨h1, hc, ⟨o2, h2, w2⟩, ⟨o3, h3, w3⟩, ⟨o4, h4, w4⟩⟩ := h
  exact ⟨at_cat h1, hc, ⟨o2, at_cat h2, w2⟩, ⟨o3, at_cat h3, w3⟩, ⟨o4, at_cat h4, w4⟩⟩
theorem QrHp.put {H : AM.Heap} {s : St} {a : List Pm} {i L : Nat} {x : Option AM.Obj} (h : QrHp c d own H s a i) (hl : 4 < L) : QrHp c d own (H.set L x) s a i := by
  obtain ⟨h1, hc, ⟨o2, h2, w2⟩, ⟨o3, h3, w3⟩, ⟨o4, h4, w4⟩⟩ := h
  exact ⟨at_ne h1 (by omega), hc, ⟨o2, at_ne h2 (by omega), w2⟩, ⟨o3, at_ne h3 (by omega), w3⟩, ⟨o4, at_ne h4 (by omega), w4⟩⟩
theorem QrHp.to {H : AM.Heap} {s s' : St} {a : List Pm} {i : Nat} (h : QrHp c d own H s a i) (hc' : c = 0 → s'.1 = []) : QrHp c d own (H.set 1 (some (rdO c 1 1 s'))) s' a i := by
  obtain ⟨h1, hc, ⟨o2, h2, w2⟩, ⟨o3, h3, w3⟩, ⟨o4, h4, w4⟩⟩ := h
  exact ⟨at_set h1, hc', ⟨o2, at_ne h2 (by omega), w2⟩, ⟨o3, at_ne h3 (by omega), w3⟩, ⟨o4, at_ne h4 (by omega), w4⟩⟩

set_option maxRecDepth 100000 in
set_option maxHeartbeats 4000000 in
/-- the parameter's place, its type, its way -/
theorem qr_new (i : Nat) (t : Ty) (H : AM.Heap) (ob : AM.Obj) (hi : i ≤ 9000000) (ht : own[i]? = some t) (h3 : H[3]? = some (some ob)) (hw : Rw (.pr 2 (own.map Ty.pay)) 0 ob) :
    ∃ code, ((Try.f15.body).bind (codeAt [1, 1, 1, 1, 1, 1, 1, 1, 1, 1, 1, 0, 1, 0, 0, 1, 0, 0, 0])) = some code ∧ Run X (evT X) 15 0 code (qrFr n d cg g own v i [(94, .bool true)]) H ⟨.normal, qrFr n d cg g own v i [(18, .ptr H.length 0 0 0)], H ++ [some (pmO ⟨t, lgB g i, {}⟩)]⟩ := by
  refine ⟨_, rfl, ?_⟩
  have hlt := at_lt ht
  have hiI : (i : Int) < (own.length : Int) := by omega
  have hrow : (own.map Ty.pay)[i]? = some (.pc [.int .u8 (t.t : Nat), .bool t.u]) := by rw [List.getElem?_map, ht]; rfl
  have hL : (own.map Ty.pay).length = own.length := List.length_map _
  have hgl : (g.map AV.bool).length = g.length := List.length_map _
  have hnew : ∀ x : Option AM.Obj, (H ++ [x])[H.length]? = some x := fun x => by simp
  have hl3 := at_lt h3
  obtain ⟨p, gg, cap, zz, row, ids', tg⟩ := ob
  obtain ⟨q1, q2, q3, q4, q5⟩ := hw
  simp only at q1 q2 q3 q4 q5
  subst q1 q2 q3 q4 q5
  unfold qrFr
  by_cases hig : i < g.length
  · obtain ⟨lg, hlg⟩ : ∃ lg, g[i]? = some lg := ⟨_, List.getElem?_eq_getElem hig⟩
    have hlgB : lgB g i = lg := by unfold lgB; rw [List.getD, hlg]; rfl
    have hrg : (g.map AV.bool)[i]? = some (.bool lg) := by rw [List.getElem?_map, hlg]; rfl
    have hgI : (i : Int) < (g.length : Int) := by omega
    rw [hlgB]
    generalize own.map Ty.pay = L at *
    generalize g.map AV.bool = G at *
    apply Run.dy (by simp) keep15_19 (by simp)
    · (conv => lhs; simp (maxSteps := 2000000) -implicitDefEqProofs [-getElem?_pos, List.getElem?_cons_zero, List.getElem?_cons_succ, go_sem, eqV, plen, loadV, storeV, runD, out1, markOf, freeO, quietO, pushes, isAssign, calledV, touched, mentioned, opVals, touchCall, mentionCall, idsAt, Op.operands, ids, idsL, lendArgs, lendV, lend1, lendL, eqH_self, hlt, hiI, hrow, hL, hgl, h3, hig, hgI, hrg, bdPm, mkTy, hnew, retagL, retag, retagP, flatCells, splice, scalars, scalar])
      rfl
    · refine marksOk_of (ps := [(0, 1), (0, 4), (1, 4), (2, 4), (3, 4), (0, 5), (1, 5), (2, 5), (3, 5), (4, 5), (0, 6), (1, 6), (2, 6), (3, 6), (4, 6), (0, 7), (1, 7), (2, 7), (3, 7), (0, 8), (1, 8), (2, 8), (3, 8), (0, 9), (1, 9), (2, 9), (3, 9), (0, 10), (1, 10), (2, 10), (3, 10), (9, 10), (0, 11), (1, 11), (2, 11), (3, 11), (0, 12), (1, 12), (2, 12), (3, 12), (0, 13), (1, 13), (2, 13), (3, 13), (0, 15), (1, 15), (2, 15), (3, 15), (4, 15), (5, 15), (6, 15), (7, 15), (8, 15), (9, 15), (10, 15), (11, 15), (12, 15), (13, 15), (14, 15)]) (by kernel_rfl) ?_
      have hpl : plainT X 3 = true := by kernel_rfl
      simp [bearP, bear, hpl, Call.operands, evalO, getF, idsL, ids]
      omega
    · rfl
  · have hlgB : lgB g i = false := by unfold lgB; rw [List.getD, List.getElem?_eq_none (by omega)]; rfl
    have hgI : ¬ (i : Int) < (g.length : Int) := by omega
    rw [hlgB]
    generalize own.map Ty.pay = L at *
    generalize g.map AV.bool = G at *
    apply Run.dy (by simp) keep15_19 (by simp)
    · (conv => lhs; simp (maxSteps := 2000000) -implicitDefEqProofs [-getElem?_pos, List.getElem?_cons_zero, List.getElem?_cons_succ, go_sem, eqV, plen, loadV, storeV, runD, out1, markOf, freeO, quietO, pushes, isAssign, calledV, touched, mentioned, opVals, touchCall, mentionCall, idsAt, Op.operands, ids, idsL, lendArgs, lendV, lend1, lendL, eqH_self, hlt, hiI, hrow, hL, hgl, h3, hig, hgI, bdPm, mkTy, hnew, retagL, retag, retagP, flatCells, splice, scalars, scalar])
      rfl
    · refine marksOk_of (ps := [(0, 1), (0, 4), (1, 4), (2, 4), (3, 4), (0, 5), (1, 5), (2, 5), (3, 5), (4, 5), (0, 6), (1, 6), (2, 6), (3, 6), (4, 6), (0, 7), (1, 7), (2, 7), (3, 7), (0, 8), (1, 8), (2, 8), (3, 8), (0, 9), (1, 9), (2, 9), (3, 9), (0, 10), (1, 10), (2, 10), (3, 10), (9, 10), (0, 11), (1, 11), (2, 11), (3, 11), (0, 12), (1, 12), (2, 12), (3, 12), (0, 13), (1, 13), (2, 13), (3, 13), (0, 15), (1, 15), (2, 15), (3, 15), (4, 15), (5, 15), (6, 15), (7, 15), (8, 15), (9, 15), (10, 15), (11, 15), (12, 15), (13, 15), (14, 15)]) (by kernel_rfl) ?_
      have hpl : plainT X 3 = true := by kernel_rfl
      simp [bearP, bear, hpl, Call.operands, evalO, getF, idsL, ids]
      omega
    · rfl

end

end Go.Proofs.Ytbmddnokokoofaa

/- Walks: the document's reading of parameters: a round. -/
namespace Go.Proofs.Ytbmddnokokoofaa
open Go.AM
set_option linter.unusedSimpArgs false
set_option linter.unusedVariables false

section
variable (c n : Nat) (d : List UInt8) (cg : Nat) (g : List Bool) (own : List Ty) (v : Nat)

set_option maxRecDepth 100000 in
set_option maxHeartbeats 4000000 in
/-- the parameter's bit -/
theorem qr_bit (i : Nat) (x : AM.Frame) (L : Nat) (H : AM.Heap) (ob : AM.Obj) (hi : i < 8 * d.length) (hd : d.length ≤ 1000000) (h2 : H[2]? = some (some ob)) (hw : Rw (.pb d) 0 ob) :
    ∃ code, ((Try.f15.body).bind (codeAt [1, 1, 1, 1, 1, 1, 1, 1, 1, 1, 1, 0, 1, 0, 0, 1, 0, 0, 1, 0])) = some code ∧ Run X (evT X) 15 0 code (qrFr n d cg g own v i [(18, .ptr L 0 0 0)]) H ⟨.normal, qrFr n d cg g own v i [(18, .ptr L 0 0 0), (19, .bool (bitB d i))], H⟩ := by
  refine ⟨_, rfl, ?_⟩
  obtain ⟨y, hy⟩ : ∃ y, d[i / 8]? = some y := ⟨_, List.getElem?_eq_getElem (by omega)⟩
  have hbit : bitB d i = ((y.toNat / 2 ^ (i % 8)) % 2 == 1) := by unfold bitB; rw [List.getD, hy]; rfl
  have e1 : Int.tdiv (i : Int) 8 = ((i / 8 : Nat) : Int) := by rw [Int.tdiv_eq_ediv_of_nonneg (by omega)]; omega
  have e2 : Int.tmod (i : Int) 8 = ((i % 8 : Nat) : Int) := by rw [Int.tmod_eq_emod_of_nonneg (by omega)]; omega
  have e3 : (i : Int) / 8 = ((i / 8 : Nat) : Int) := by omega
  have e4 : (i : Int) % 8 = ((i % 8 : Nat) : Int) := by omega
  have wq : IntKind.i64.wrap ((i / 8 : Nat) : Int) = ((i / 8 : Nat) : Int) := wrap_i64 (by omega) (by omega)
  have wr8 : IntKind.i64.wrap ((i % 8 : Nat) : Int) = ((i % 8 : Nat) : Int) := wrap_i64 (by omega) (by omega)
  have wu8 : IntKind.u64.wrap ((i % 8 : Nat) : Int) = ((i % 8 : Nat) : Int) := wrap_u64 (by omega) (by omega)
  have hii : ((i / 8 : Nat) : Int) < (d.length : Int) := by omega
  have hin : i / 8 < d.length := by omega
  have hr0 : ¬ ((i % 8 : Nat) : Int) < 0 := by omega
  have hsh := shr8 (y := y.toNat) (j := i % 8) (Nat.mod_lt _ (by omega))
  have han := and1 (y := y.toNat) (j := i % 8) y.toNat_lt
  have heq : ∀ z : Nat, ((z : Int) == 1) = (z == 1) := by
    intro z
    by_cases h : z = 1
    · subst h; rfl
    · have : (z == 1) = false := by simpa using h
      rw [this]; exact beq_eq_false_iff_ne.2 (by omega)
  obtain ⟨p, gg, cap, zz, row, ids, tg⟩ := ob
  obtain ⟨q1, q2, q3, q4, q5⟩ := hw
  simp only at q1 q2 q3 q4 q5
  subst q1 q2 q3 q4 q5
  rw [hbit]
  unfold qrFr
  generalize own.map Ty.pay = K at *
  generalize g.map AV.bool = G at *
  generalize i / 8 = q at *
  generalize i % 8 = r at *
  generalize y.toNat / 2 ^ r = dd at *
  have han2 := han
  simp only [go_sem] at han2
  simp only [BitVec.toNat_and] at han
  have hq := heq (dd % 2)
  generalize hddd : (dd % 2 == 1) = z at *
  generalize dd % 2 = d2 at *
  (refine ⟨0, ?_⟩; simp (maxSteps := 2000000) -implicitDefEqProofs [-getElem?_pos, List.getElem?_cons_zero, List.getElem?_cons_succ, go_sem, eqV, plen, loadV, storeV, h2, e1, e2, e3, e4, wq, wr8, wu8, hii, hin, hy, hr0, hsh, han, han2, hq, show IntKind.u8.bits = 8 from rfl])

set_option maxRecDepth 100000 in
set_option maxHeartbeats 4000000 in
/-- nothing told of a type that has no values -/
theorem qr_wrong (i : Nat) (t : Ty) (L : Nat) (H : AM.Heap) (s : St) (nul : Bool) (ob : AM.Obj) (hi : i ≤ 9000000) (ht : own[i]? = some t) (h3 : H[3]? = some (some ob)) (hw : Rw (.pr 2 (own.map Ty.pay)) 0 ob) (h1 : H[1]? = some (some (rdO c 1 1 s))) (hL : H[L]? = some (some (pmO ⟨t, lgB g i, {}⟩))) :
    ∃ code, ((Try.f15.body).bind (codeAt [1, 1, 1, 1, 1, 1, 1, 1, 1, 1, 1, 0, 1, 0, 0, 1, 0, 0, 1, 1, 0])) = some code ∧ Run X (evT X) 15 0 code (qrFr n d cg g own v i [(18, .ptr L 0 0 0), (19, .bool nul)]) H ⟨.normal, qrFr n d cg g own v i [(18, .ptr L 0 0 0), (19, .bool nul)], H.set 1 (some (rdO c 1 1 (s.1, wr (decide (t.t = 6) && (!nul && !lgB g i)) s.2)))⟩ := by
  refine ⟨_, rfl, ?_⟩
  have hlt := at_lt ht
  have hiI : (i : Int) < (own.length : Int) := by omega
  have hrow : (own.map Ty.pay)[i]? = some (.pc [.int .u8 (t.t : Nat), .bool t.u]) := by rw [List.getElem?_map, ht]; rfl
  have hOl : (own.map Ty.pay).length = own.length := List.length_map _
  have hW := wr1 h1
  obtain ⟨p, gg, cap, zz, row, ids', tg⟩ := ob
  obtain ⟨q1, q2, q3, q4, q5⟩ := hw
  simp only at q1 q2 q3 q4 q5
  subst q1 q2 q3 q4 q5
  unfold qrFr
  generalize lgB g i = lg at *
  generalize own.map Ty.pay = K at *
  generalize g.map AV.bool = G at *
  simp only [pmO, Pm.pay] at hL
  by_cases h6 : t.t = 6
  · have h6i : (((t.t : Nat) : Int) == 6) = true := by rw [h6]; rfl
    rw [decide_eq_true h6, Bool.true_and]
    cases nul with
    | true =>
      have hW := hW false
      simp only [Bool.not_true, Bool.false_and]
      (refine ⟨0, ?_⟩; simp (maxSteps := 2000000) -implicitDefEqProofs [-getElem?_pos, List.getElem?_cons_zero, List.getElem?_cons_succ, go_sem, eqV, plen, loadV, storeV, h3, hlt, hiI, hrow, hOl, h6, h6i, hL, mkPm, hW, retag])
    | false =>
      simp only [Bool.not_false, Bool.true_and]
      have hW := hW (!lg)
      (refine ⟨0, ?_⟩; simp (maxSteps := 2000000) -implicitDefEqProofs [-getElem?_pos, List.getElem?_cons_zero, List.getElem?_cons_succ, go_sem, eqV, plen, loadV, storeV, h3, hlt, hiI, hrow, hOl, h6, h6i, hL, mkPm, hW, retag])
  · have h6i : (((t.t : Nat) : Int) == 6) = false := beq_eq_false_iff_ne.2 (by omega)
    rw [decide_eq_false h6, Bool.false_and]
    have hW := hW false
    (refine ⟨0, ?_⟩; simp (maxSteps := 2000000) -implicitDefEqProofs [-getElem?_pos, List.getElem?_cons_zero, List.getElem?_cons_succ, go_sem, eqV, plen, loadV, storeV, h3, hlt, hiI, hrow, hOl, h6, h6i, hW, retag])

set_option maxRecDepth 100000 in
set_option maxHeartbeats 4000000 in
/-- a value told -/
theorem qr_val (i : Nat) (t : Ty) (L : Nat) (H : AM.Heap) (s : St) (ob : AM.Obj) (hi : i ≤ 9000000) (ht : own[i]? = some t) (htt : t.t < 256) (h3 : H[3]? = some (some ob)) (hw : Rw (.pr 2 (own.map Ty.pay)) 0 ob) (h1 : H[1]? = some (some (rdO c 1 1 s))) (hc : c = 0 → s.1 = []) (hb : s.1.length ≤ 90000000) (hL : H[L]? = some (some (pmO ⟨t, false, {}⟩))) (hl : 4 < L) :
    ∃ code, ((Try.f15.body).bind (codeAt [1, 1, 1, 1, 1, 1, 1, 1, 1, 1, 1, 0, 1, 0, 0, 1, 0, 0, 1, 1, 1, 0, 1, 0])) = some code ∧ Run X (evT X) 15 0 code (qrFr n d cg g own v i [(18, .ptr L 0 0 0), (146, .bool true)]) H ⟨.normal, qrFr n d cg g own v i [(18, .ptr L 0 0 0)], (H.set 1 (some (rdO c 1 1 (vlF s t).2))).set L (some (pmO ⟨t, false, (vlF s t).1⟩))⟩ := by
  refine ⟨_, rfl, ?_⟩
  have hlt := at_lt ht
  have hiI : (i : Int) < (own.length : Int) := by omega
  have hrow : (own.map Ty.pay)[i]? = some (.pc [.int .u8 (t.t : Nat), .bool t.u]) := by rw [List.getElem?_map, ht]; rfl
  have hOl : (own.map Ty.pay).length = own.length := List.length_map _
  have hV := vl1 h1 hc htt hb
  have hL2 : (H.set 1 (some (rdO c 1 1 (vlF s t).2)))[L]? = some (some (pmO ⟨t, false, {}⟩)) := at_ne hL (by omega)
  obtain ⟨p, gg, cap, zz, row, ids', tg⟩ := ob
  obtain ⟨q1, q2, q3, q4, q5⟩ := hw
  simp only at q1 q2 q3 q4 q5
  subst q1 q2 q3 q4 q5
  unfold qrFr
  generalize vlF s t = x at *
  obtain ⟨w, s2⟩ := x
  simp only at hV hL2 ⊢
  generalize H.set 1 (some (rdO c 1 1 s2)) = H2 at *
  generalize own.map Ty.pay = K at *
  generalize g.map AV.bool = G at *
  simp only [pmO, Pm.pay] at hL2
  simp only [Ty.pay, Va.pay] at hV
  (refine ⟨0, ?_⟩; simp (maxSteps := 2000000) -implicitDefEqProofs [-getElem?_pos, List.getElem?_cons_zero, List.getElem?_cons_succ, go_sem, eqV, plen, loadV, storeV, h3, hlt, hiI, hrow, hOl, mkTy, hV, hL2, pmO, Pm.pay, retagL, retag, retagP, flatCells, splice, scalars, scalar])

set_option maxRecDepth 100000 in
set_option maxHeartbeats 4000000 in
/-- the parameter put behind the others -/
theorem qr_app (i : Nat) (p : Pm) (a : List Pm) (L : Nat) (H : AM.Heap) (ob : AM.Obj) (tl : AM.Frame) (ha : a.length = i) (hi2 : i ≤ 9000000) (h4 : H[4]? = some (some ob)) (hw : Rw (.pr 15 (a.map Pm.pay)) i ob) (hL : H[L]? = some (some (pmO p))) (htl : tl = [] ∨ tl = [(146, .bool false)]) :
    ∃ ob', Rw (.pr 15 ((a ++ [p]).map Pm.pay)) (i + 1) ob' ∧ ∃ code, ((Try.f15.body).bind (codeAt [1, 1, 1, 1, 1, 1, 1, 1, 1, 1, 1, 0, 1, 0, 0, 1, 0, 0, 1, 1, 1, 1])) = some code ∧ Run X (evT X) 15 0 code (qrFr n d cg g own v i ([(18, .ptr L 0 0 0)] ++ tl)) H ⟨.normal, [(1, .int .i64 (n : Nat)), (3, .ro cg (.pc (g.map .bool)) 4), (11, .ptr 1 0 0 0), (12, .sl 2 0 d.length 0), (14, .int .u8 (v : Nat)), (15, .sl 3 0 own.length 0), (16, .sl 4 0 (i + 1) (i + 1)), (17, .int .i64 (i : Nat))], upd H 4 (some ob')⟩ := by
  have hlen : (a.map Pm.pay).length = i := by rw [List.length_map, ha]
  obtain ⟨ob', hw', hA⟩ := app_rows (C := X) (T := 35) (e := 34) (es := 15) (H := H) (o := 4) (m := [p.pay]) (src := .ro 1 (.pr 15 [p.pay]) 0) (by simp) (by simp) (by omega) (by simp) (by simp) h4 hw rfl (by rw [hlen]; simp; omega)
  rw [hlen] at hA
  refine ⟨ob', by rw [List.map_append]; exact hw', _, rfl, ?_⟩
  have hbs := fun H => bsPm H p
  simp only [Pm.pay, List.length_cons, List.length_nil, Nat.zero_add] at hA hbs
  simp only [pmO, Pm.pay] at hL
  unfold qrFr
  generalize own.map Ty.pay = K at *
  generalize g.map AV.bool = G at *
  rcases htl with rfl | rfl
  · (refine ⟨0, ?_⟩; simp (maxSteps := 2000000) -implicitDefEqProofs [-getElem?_pos, List.getElem?_cons_zero, List.getElem?_cons_succ, go_sem, eqV, plen, loadV, storeV, hL, mkPm, hbs, hA, assignV, retagL, retag, retagP])
  · (refine ⟨0, ?_⟩; simp (maxSteps := 2000000) -implicitDefEqProofs [-getElem?_pos, List.getElem?_cons_zero, List.getElem?_cons_succ, go_sem, eqV, plen, loadV, storeV, hL, mkPm, hbs, hA, assignV, retagL, retag, retagP])

end

end Go.Proofs.Ytbmddnokokoofaa

/- Walks: the document's reading of parameters: whole. -/
namespace Go.Proofs.Ytbmddnokokoofaa
open Go.AM
set_option linter.unusedSimpArgs false
set_option linter.unusedVariables false

section
variable (c n : Nat) (d : List UInt8) (cg : Nat) (g : List Bool) (own : List Ty) (v : Nat)

set_option maxRecDepth 100000 in
set_option maxHeartbeats 4000000 in
theorem qr_round (i : Nat) (s : St) (a : List Pm) (H : AM.Heap) (hin : i < n) (hn : n ≤ 65535) (hd : n ≤ 8 * d.length) (hdl : d.length ≤ 1000000) (hown : own.length = n) (hot : ∀ t ∈ own, t.t < 256) (he : s.2 = 0) (ha : a.length = i) (hb : s.1.length ≤ 90000000) (hH : QrHp c d own H s a i) :
    ∃ code, ((Try.f15.body).bind (codeAt [1, 1, 1, 1, 1, 1, 1, 1, 1, 1, 1, 0, 1, 0, 0])) = some code ∧ Tells (Goes fun fr H' => fr = qrFr n d cg g own v (i + 1) [] ∧ ∃ a' s', (∀ k, rlF d g own (k + 1) i a s = rlF d g own k (i + 1) a' s') ∧ a'.length = i + 1 ∧ s'.1.length ≤ 90000000 ∧ QrHp c d own H' s' a' (i + 1)) X (evT X) 15 0 code (qrFr n d cg g own v i []) H := by
  refine ⟨_, rfl, ?_⟩
  have hiI : (i : Int) < (n : Int) := by omega
  have w1 : IntKind.i64.wrap ((i : Int) + 1) = ((i + 1 : Nat) : Int) := by rw [wrap_i64 (by omega) (by omega)]; omega
  obtain ⟨t, ht⟩ : ∃ t, own[i]? = some t := ⟨_, List.getElem?_eq_getElem (by omega)⟩
  have htt := hot t (List.mem_of_getElem? ht)
  have hti : tyI own i = t := by unfold tyI; rw [List.getD, ht]; rfl
  have hF : ∀ k, rlF d g own (k + 1) i a s = if lgB g i = true ∨ bitB d i = true then rlF d g own k (i + 1) (a ++ [⟨t, lgB g i, {}⟩]) (s.1, wr false s.2)
      else rlF d g own k (i + 1) (a ++ [⟨t, false, (vlF (s.1, wr (decide (t.t = 6)) s.2) t).1⟩]) (vlF (s.1, wr (decide (t.t = 6)) s.2) t).2 := by
    intro k
    rw [rlF, if_neg (by simpa using he), hti]
  have h00 : H[1]? = some (some ⟨.pc [.ro c (.pb s.1) 1, .int .i64 0], 0, some 2, 1, false, true, 1⟩) := by rw [hH.h1]; unfold rdO; rw [he]
  have hl4 := at_lt hH.h4.choose_spec.1
  apply Tells.assoc
  apply Tells.seq (fr' := qrFr n d cg g own v i [(94, .bool true)]) (H' := H)
  · unfold qrFr
    generalize g.map AV.bool = G at *
    (refine ⟨0, ?_⟩; simp (maxSteps := 2000000) -implicitDefEqProofs [-getElem?_pos, List.getElem?_cons_zero, List.getElem?_cons_succ, go_sem, eqV, plen, loadV, storeV, hiI, hin, h00])
  apply Tells.seq (fr' := qrFr n d cg g own v i [(94, .bool true)]) (H' := H)
  · exact condT (by simp [evalO, getF, qrFr]) ⟨0, rfl⟩
  apply Tells.andThen (P := fun fr H' => fr = [(1, .int .i64 (n : Nat)), (3, .ro cg (.pc (g.map .bool)) 4), (11, .ptr 1 0 0 0), (12, .sl 2 0 d.length 0), (14, .int .u8 (v : Nat)), (15, .sl 3 0 own.length 0), (16, .sl 4 0 (i + 1) (i + 1)), (17, .int .i64 (i : Nat))] ∧ ∃ a' s', (∀ k, rlF d g own (k + 1) i a s = rlF d g own k (i + 1) a' s') ∧ a'.length = i + 1 ∧ s'.1.length ≤ 90000000 ∧ QrHp c d own H' s' a' (i + 1))
  case h' =>
    rintro fr H2 ⟨rfl, h2⟩
    refine Tells.of (o := ⟨.normal, qrFr n d cg g own v (i + 1) [], H2⟩) ⟨0, ?_⟩ ⟨rfl, rfl, h2⟩
    unfold qrFr
    generalize g.map AV.bool = G at *
    simp (maxSteps := 2000000) -implicitDefEqProofs [-getElem?_pos, List.getElem?_cons_zero, List.getElem?_cons_succ, go_sem, eqV, plen, loadV, storeV, w1]
  case h =>
  apply Tells.blk (hq := fun o h => by rw [h.1]; simp)
  obtain ⟨o3, h3, w3⟩ := hH.h3
  apply Tells.seq (piece (qr_new n d cg g own v i t H o3 (by omega) ht h3 w3) _ rfl)
  have hH1 := hH.push (x := some (pmO ⟨t, lgB g i, {}⟩))
  have hpm : (H ++ [some (pmO ⟨t, lgB g i, {}⟩)])[H.length]? = some (some (pmO ⟨t, lgB g i, {}⟩)) := by simp
  generalize H ++ [some (pmO ⟨t, lgB g i, {}⟩)] = H1 at *
  generalize H.length = L at *
  obtain ⟨o2, h2, w2⟩ := hH1.h2
  apply Tells.seq (piece (qr_bit n d cg g own v i [] L H1 o2 (by omega) hdl h2 w2) _ rfl)
  clear h3 w3 o3
  obtain ⟨o3, h3, w3⟩ := hH1.h3
  apply Tells.seq (piece (qr_wrong c n d cg g own v i t L H1 s (bitB d i) o3 (by omega) ht h3 w3 hH1.h1 hpm) _ rfl)
  have hc := hH1.hc
  have hH2 := QrHp.to c d own (s' := (s.1, wr (decide (t.t = 6) && (!bitB d i && !lgB g i)) s.2)) hH1 hc
  have hpm2 : (H1.set 1 (some (rdO c 1 1 (s.1, wr (decide (t.t = 6) && (!bitB d i && !lgB g i)) s.2))))[L]? = some (some (pmO ⟨t, lgB g i, {}⟩)) := at_ne hpm (by omega)
  generalize H1.set 1 (some (rdO c 1 1 (s.1, wr (decide (t.t = 6) && (!bitB d i && !lgB g i)) s.2))) = H2 at *
  apply Tells.assoc
  apply Tells.seq (fr' := qrFr n d cg g own v i [(18, .ptr L 0 0 0), (146, .bool (!bitB d i && !lgB g i))]) (H' := H2)
  · unfold qrFr
    generalize g.map AV.bool = G at *
    have hpm3 := hpm2
    simp only [pmO, Pm.pay] at hpm3
    cases bitB d i with
    | true => (refine ⟨0, ?_⟩; simp (maxSteps := 2000000) -implicitDefEqProofs [-getElem?_pos, List.getElem?_cons_zero, List.getElem?_cons_succ, go_sem, eqV, plen, loadV, storeV, hpm3, mkPm, retag])
    | false => (refine ⟨0, ?_⟩; simp (maxSteps := 2000000) -implicitDefEqProofs [-getElem?_pos, List.getElem?_cons_zero, List.getElem?_cons_succ, go_sem, eqV, plen, loadV, storeV, hpm3, mkPm, retag])
  by_cases hor : lgB g i = true ∨ bitB d i = true
  · have hv : (!bitB d i && !lgB g i) = false := by
      rcases hor with h | h
      · rw [h]; cases bitB d i <;> rfl
      · rw [h]; rfl
    rw [hv] at hH2 ⊢
    rw [Bool.and_false] at hH2
    apply Tells.seq (fr' := qrFr n d cg g own v i [(18, .ptr L 0 0 0), (146, .bool false)]) (H' := H2)
    · exact condF (by simp [evalO, getF, qrFr]) ⟨0, rfl⟩
    obtain ⟨k1, kc, k2, k3, ob, k4, k5⟩ := hH2
    obtain ⟨ob', q1, q2⟩ := qr_app n d cg g own v i ⟨t, lgB g i, {}⟩ a L H2 ob [(146, .bool false)] ha (by omega) k4 k5 hpm2 (.inr rfl)
    obtain ⟨x2, y2, z2⟩ := k2
    obtain ⟨x3, y3, z3⟩ := k3
    refine Tells.of (piece q2 _ rfl) ⟨rfl, rfl, a ++ [⟨t, lgB g i, {}⟩], (s.1, wr false s.2), fun k => by rw [hF k, if_pos hor], by simp [ha], hb, at_ne k1 (by omega), kc, ⟨x2, at_ne y2 (by omega), z2⟩, ⟨x3, at_ne y3 (by omega), z3⟩, ob', at_set k4, q1⟩
  · have hlg : lgB g i = false := by cases h : lgB g i with | true => exact absurd (.inl h) hor | false => rfl
    have hbt : bitB d i = false := by cases h : bitB d i with | true => exact absurd (.inr h) hor | false => rfl
    rw [hlg, hbt] at hH2 ⊢
    rw [hlg] at hpm2
    simp only [Bool.not_false, Bool.and_self, Bool.and_true] at hH2 ⊢
    generalize hs1 : ((s.1, wr (decide (t.t = 6)) s.2) : St) = s1 at *
    have hb1 : s1.1.length ≤ 90000000 := by rw [← hs1]; exact hb
    have hvl := vlF_len s1 t
    apply Tells.seq (fr' := qrFr n d cg g own v i [(18, .ptr L 0 0 0)]) (H' := (H2.set 1 (some (rdO c 1 1 (vlF s1 t).2))).set L (some (pmO ⟨t, false, (vlF s1 t).1⟩)))
    · obtain ⟨x3, y3, z3⟩ := hH2.h3
      exact condT (by simp [evalO, getF, qrFr]) (piece (qr_val c n d cg g own v i t L H2 s1 x3 (by omega) ht htt y3 z3 hH2.h1 hH2.hc hb1 hpm2 (by omega)) _ rfl)
    have hH3 := QrHp.put c d own (L := L) (x := some (pmO ⟨t, false, (vlF s1 t).1⟩)) (QrHp.to c d own (s' := (vlF s1 t).2) hH2 (vlF_nil hH2.hc)) (by omega)
    have hpm3 : ((H2.set 1 (some (rdO c 1 1 (vlF s1 t).2))).set L (some (pmO ⟨t, false, (vlF s1 t).1⟩)))[L]? = some (some (pmO ⟨t, false, (vlF s1 t).1⟩)) := at_set (at_ne hpm2 (by omega))
    generalize (H2.set 1 (some (rdO c 1 1 (vlF s1 t).2))).set L (some (pmO ⟨t, false, (vlF s1 t).1⟩)) = H3 at *
    obtain ⟨k1, kc, k2, k3, ob, k4, k5⟩ := hH3
    obtain ⟨ob', q1, q2⟩ := qr_app n d cg g own v i ⟨t, false, (vlF s1 t).1⟩ a L H3 ob [] ha (by omega) k4 k5 hpm3 (.inl rfl)
    obtain ⟨x2, y2, z2⟩ := k2
    obtain ⟨x3, y3, z3⟩ := k3
    refine Tells.of (piece q2 _ rfl) ⟨rfl, rfl, a ++ [⟨t, false, (vlF s1 t).1⟩], (vlF s1 t).2, fun k => by rw [hF k, if_neg hor], by simp [ha], by omega, at_ne k1 (by omega), kc, ⟨x2, at_ne y2 (by omega), z2⟩, ⟨x3, at_ne y3 (by omega), z3⟩, ob', at_set k4, q1⟩

set_option maxRecDepth 100000 in
set_option maxHeartbeats 4000000 in
theorem qr_loop (s : St) (H : AM.Heap) (hn : n ≤ 65535) (hd : n ≤ 8 * d.length) (hdl : d.length ≤ 1000000) (hown : s.2 = 0 → own.length = n) (hot : ∀ t ∈ own, t.t < 256) (hb : s.1.length ≤ 90000000) (hH : QrHp c d own H s [] 0) :
    ∃ code, ((Try.f15.body).bind (codeAt [1, 1, 1, 1, 1, 1, 1, 1, 1, 1, 1, 0, 1])) = some code ∧ Tells (Goes fun fr H' => ∃ i, i = (rlF d g own n 0 [] s).1.length ∧ fr = qrFr n d cg g own v i [(94, .bool false)] ∧ QrHp c d own H' (rlF d g own n 0 [] s).2 (rlF d g own n 0 [] s).1 i) X (evT X) 15 0 code (qrFr n d cg g own v 0 []) H := by
  refine ⟨_, rfl, ?_⟩
  apply Tells.block
  refine Tells.loopP (fun k fr H => ∃ i a s', k = n - i ∧ i ≤ n ∧ (s'.2 = 0 → s.2 = 0 ∨ i = 0) ∧ (i = 0 → s' = s) ∧ a.length = i ∧ s'.1.length ≤ 90000000 ∧ fr = qrFr n d cg g own v i [] ∧ QrHp c d own H s' a i ∧ rlF d g own n 0 [] s = rlF d g own (n - i) i a s') ?_ (k := n) ⟨0, [], s, rfl, by omega, fun h => .inl h, fun _ => rfl, rfl, hb, rfl, hH, rfl⟩
  rintro k fr H ⟨i, a, s', rfl, hi, hs0, hs1, ha, hb', rfl, hH, hF⟩
  by_cases hin : i = n
  · subst hin
    rw [Nat.sub_self, rlF] at hF
    rw [hF]
    refine Tells.of (o := ⟨.exit 2, qrFr i d cg g own v i [(94, .bool false)], H⟩) ⟨0, ?_⟩ (.inr ⟨by simp, rfl, i, ha.symm, rfl, hH⟩)
    unfold qrFr
    generalize g.map AV.bool = G at *
    simp (maxSteps := 2000000) -implicitDefEqProofs [-getElem?_pos, List.getElem?_cons_zero, List.getElem?_cons_succ, go_sem, eqV, plen, loadV, storeV]
  have hs : n - i = (n - (i + 1)) + 1 := by omega
  rw [hs] at hF
  by_cases he : s'.2 = 0
  · have hsz : s.2 = 0 := by
      rcases hs0 he with h | h
      · exact h
      · rw [← hs1 h]; exact he
    refine (piece (qr_round c n d cg g own v i s' a H (by omega) hn hd hdl (hown hsz) hot he ha hb' hH) _ rfl).mono ?_
    rintro o ⟨h1, h2, a', s2, h3, h4, h5, h6⟩
    exact .inl ⟨h1, n - (i + 1), by omega, i + 1, a', s2, rfl, by omega, fun _ => .inl hsz, by omega, h4, h5, h2, h6, by rw [hF, h3]⟩
  · rw [rlF, if_pos he] at hF
    rw [hF]
    have hiI : (i : Int) < (n : Int) := by omega
    have hiN : i < n := by omega
    have heb : (s'.2 == 0) = false := beq_eq_false_iff_ne.2 he
    refine Tells.of (o := ⟨.exit 2, qrFr n d cg g own v i [(94, .bool false)], H⟩) ⟨0, ?_⟩ (.inr ⟨by simp, rfl, i, ha.symm, rfl, hH⟩)
    have h00 := hH.h1
    unfold rdO at h00
    unfold qrFr
    generalize g.map AV.bool = G at *
    simp (maxSteps := 2000000) -implicitDefEqProofs [-getElem?_pos, List.getElem?_cons_zero, List.getElem?_cons_succ, go_sem, eqV, plen, loadV, storeV, hiI, hiN, h00, heb]

end

end Go.Proofs.Ytbmddnokokoofaa

/- Walks: the document's reading of parameters: whole. -/
namespace Go.Proofs.Ytbmddnokokoofaa
open Go.AM
set_option linter.unusedSimpArgs false
set_option linter.unusedVariables false

theorem tzS_lt {bd : Bool} {ks : List Ty} {i : Nat} {s : St} (h : ∀ t ∈ ks, t.t < 256) : (tzS bd ks i s).1.t < 256 := by
  unfold tzS
  split
  · exact Nat.lt_of_lt_of_le (fx_lt (n := 1) s) (by decide)
  · split
    · rename_i hi
      obtain ⟨t, ht⟩ : ∃ t, ks[i]? = some t := ⟨_, List.getElem?_eq_getElem hi⟩
      have : tyI ks i = t := by unfold tyI; rw [List.getD, ht]; rfl
      simp only [this]
      exact h t (List.mem_of_getElem? ht)
    · simp
theorem tzS_len (bd : Bool) (ks : List Ty) (i : Nat) (s : St) : (tzS bd ks i s).2.1.length ≤ s.1.length := by
  unfold tzS
  split
  · have h1 := fx_len 1 s
    have h2 := fx_len 1 ((fx 1 s).2.1, wr (decide (kindN (fx 1 s).1 false < 0)) (fx 1 s).2.2)
    simp only at h2 ⊢
    omega
  · split
    · simp
    · simp
theorem tzF_ok {bd : Bool} {ks : List Ty} (h : ∀ t ∈ ks, t.t < 256) : ∀ (k i : Nat) (a : List Ty) (s : St), (∀ t ∈ a, t.t < 256) → (∀ t ∈ (tzF bd ks k i a s).1, t.t < 256) ∧ ((tzF bd ks k i a s).2.2 = 0 → (tzF bd ks k i a s).1.length = a.length + k) ∧ (tzF bd ks k i a s).2.1.length ≤ s.1.length
  | 0, i, a, s, ha => ⟨ha, fun _ => rfl, Nat.le_refl _⟩
  | k + 1, i, a, s, ha => by
    rw [tzF]
    split
    · rename_i he
      exact ⟨ha, fun h => absurd h he, Nat.le_refl _⟩
    · have hq : ∀ t ∈ a ++ [(tzS bd ks i s).1], t.t < 256 := by
        intro t ht
        rcases List.mem_append.1 ht with h1 | h1
        · exact ha t h1
        · rw [List.mem_singleton.1 h1]; exact tzS_lt h
      obtain ⟨q1, q2, q3⟩ := tzF_ok (bd := bd) h k (i + 1) (a ++ [(tzS bd ks i s).1]) (tzS bd ks i s).2 hq
      have := tzS_len bd ks i s
      refine ⟨q1, fun h => ?_, by omega⟩
      rw [q2 h, List.length_append]; simp; omega

theorem rlF_len (d : List UInt8) (g : List Bool) (own : List Ty) : ∀ (k i : Nat) (a : List Pm) (s : St), (rlF d g own k i a s).2.1.length ≤ s.1.length
  | 0, i, a, s => Nat.le_refl _
  | k + 1, i, a, s => by
    rw [rlF]
    split
    · exact Nat.le_refl _
    · split
      · exact rlF_len d g own k (i + 1) _ (s.1, wr false s.2)
      · have h1 := rlF_len d g own k (i + 1) (a ++ [⟨tyI own i, false, (vlF (s.1, wr (decide ((tyI own i).t = 6)) s.2) (tyI own i)).1⟩]) (vlF (s.1, wr (decide ((tyI own i).t = 6)) s.2) (tyI own i)).2
        have h2 := vlF_len (s.1, wr (decide ((tyI own i).t = 6)) s.2) (tyI own i)
        simp only at h2
        omega

/-- what is read before the types: the bits, what is left, the sign -/
def rrD (b : List UInt8) (m : Nat) : List UInt8 := bts ((m + 7) / 8) (b, 0)
def rrS1 (b : List UInt8) (m : Nat) (g : List Bool) : St := ((fx ((m + 7) / 8) (b, 0)).2.1, wr (lbF (rrD b m) g (min m g.length)) (wr (btF (rrD b m) 0 m) (fx ((m + 7) / 8) (b, 0)).2.2))
def rrS2 (b : List UInt8) (m : Nat) (g : List Bool) : St := ((fx 1 (rrS1 b m g)).2.1, wr (decide (1 < (fx 1 (rrS1 b m g)).1)) (fx 1 (rrS1 b m g)).2.2)
def rrO (b : List UInt8) (m : Nat) (ts : List Ty) (g : List Bool) : List Ty × St := tzF (decide ((fx 1 (rrS1 b m g)).1 = 1)) ts m 0 [] (rrS2 b m g)
def rrL (b : List UInt8) (m : Nat) (ts : List Ty) (g : List Bool) : List Pm × St := rlF (rrD b m) g (rrO b m ts g).1 m 0 [] (rrO b m ts g).2
/-- what is told behind all -/
def rrZ (v : Nat) (x : List Pm × St) : List Pm × Bool × Int :=
  if wr (decide (0 < x.2.1.length)) x.2.2 ≠ 0 then ([], false, wr (decide (0 < x.2.1.length)) x.2.2) else (x.1, decide (v = 1), 0)
def rrPar (b : List UInt8) (n : Int) (ts : List Ty) (g : List Bool) : List Pm × Bool × Int :=
  if n < 0 ∨ 65535 < n then ([], false, 2) else
  if n = 0 then ([], false, wr (decide (0 < b.length)) 0) else rrZ (fx 1 (rrS1 b n.toNat g)).1 (rrL b n.toNat ts g)

section
variable (c n : Nat) (d : List UInt8) (cg : Nat) (g : List Bool) (own : List Ty) (v : Nat)

set_option maxRecDepth 100000 in
set_option maxHeartbeats 4000000 in
theorem rr_tail (s : St) (H : AM.Heap) (i : Nat) (a : List Pm) (hb : s.1.length ≤ 90000000) (hv : v < 256) (hi : a.length = i) (hH : QrHp c d own H s a i) :
    ∃ code, ((Try.f15.body).bind (codeAt [1, 1, 1, 1, 1, 1, 1, 1, 1, 1, 1, 1])) = some code ∧ Tells (Rets (PrZ (rrZ v (a, s)))) X (evT X) 15 0 code (qrFr n d cg g own v i [(94, .bool false)]) H := by
  refine ⟨_, rfl, ?_⟩
  obtain ⟨h1, hc, h2, h3, ob, h4, hw⟩ := hH
  have hl4 := at_lt h4
  have hD := doneF_ev (p := .pb s.1) (l := s.1) (e := s.2) h1 (.inl rfl) (jt c 1 s)
  unfold rrZ
  simp only
  generalize wr (decide (0 < s.1.length)) s.2 = e at *
  generalize hH2 : upd H 1 (some (bxO (.pb s.1) c 1 1 e)) = H2 at *
  have g4 : H2[4]? = some (some ob) := by rw [← hH2]; exact at_ne h4 (by omega)
  have g1 : H2[1]? = some (some ⟨.pc [.ro c (.pb s.1) 1, .int .i64 e], 0, some 2, 1, false, true, 1⟩) := by rw [← hH2]; exact at_set h1
  have hl1 := at_lt g4
  apply Tells.assoc
  apply Tells.seq (fr' := [(11, .ptr 1 0 0 0), (14, .int .u8 (v : Nat)), (16, .sl 4 0 i i), (160, .bool (e != 0))]) (H' := H2)
  · unfold qrFr
    generalize g.map AV.bool = G at *
    (refine ⟨0, ?_⟩; simp (maxSteps := 2000000) -implicitDefEqProofs [-getElem?_pos, List.getElem?_cons_zero, List.getElem?_cons_succ, go_sem, eqV, plen, loadV, storeV, hD])
  by_cases he : e = 0
  · subst he
    rw [if_neg (by simp)]
    refine Tells.of (o := ⟨.ret, [(8, .sl 4 0 i i), (9, .bool (decide (v = 1))), (10, .int .i64 0)], H2⟩) ⟨0, ?_⟩ ⟨rfl, 4, i, ob, by rw [hi]; rfl, rfl, rfl, g4, hw⟩
    have q1 : ((v : Int) == 1) = decide (v = 1) := by
      by_cases h : v = 1
      · subst h; rfl
      · have : ((v : Int) == 1) = false := beq_eq_false_iff_ne.2 (by omega)
        rw [this]; simp [h]
    simp (maxSteps := 2000000) -implicitDefEqProofs [-getElem?_pos, List.getElem?_cons_zero, List.getElem?_cons_succ, go_sem, eqV, plen, loadV, storeV, q1, assignV]
  · rw [if_pos he]
    have heb : (e != 0) = true := by simpa using he
    rw [heb]
    have hnew : ∀ x : Option AM.Obj, (H2 ++ [x])[H2.length]? = some x := fun x => by simp
    refine Tells.of (o := ⟨.ret, [(8, .sl H2.length 0 0 0), (9, .bool false), (10, .int .i64 e)], H2 ++ [some nilP]⟩) ?_ ⟨rfl, PrZ.bad rfl rfl rfl (hnew _)⟩
    apply Run.seq_out (hne := by simp)
    refine condT (by simp [evalO, getF]) ?_
    apply Run.seq (fr' := [(8, .sl H2.length 0 0 0), (9, .bool false), (10, .int .i64 e)]) (H' := H2 ++ [some nilP])
    · apply Run.dy (by simp) keep15_26 (by simp)
      · (conv => lhs; simp (maxSteps := 2000000) -implicitDefEqProofs [-getElem?_pos, List.getElem?_cons_zero, List.getElem?_cons_succ, go_sem, eqV, plen, loadV, storeV, runD, out1, markOf, freeO, quietO, pushes, isAssign, calledV, touched, mentioned, opVals, touchCall, mentionCall, idsAt, Op.operands, ids, idsL, lendArgs, lendV, lend1, lendL, eqH_self, g1, assignV, emP, retag])
      · refine marksOk_of (ps := [(0, 4), (1, 4), (2, 4), (3, 4), (0, 5), (1, 5), (2, 5), (3, 5)]) (by kernel_rfl) ?_
        simp [bearP, bear]
        omega
      · rfl
    · exact ⟨0, rfl⟩

end

end Go.Proofs.Ytbmddnokokoofaa

/- Walks: the document's reading of parameters: the whole. -/
namespace Go.Proofs.Ytbmddnokokoofaa
open Go.AM
set_option linter.unusedSimpArgs false
set_option linter.unusedVariables false

section
variable (c : Nat) (b : List UInt8) (n : Int) (ct : Nat) (ts : List Ty) (cg : Nat) (g : List Bool)

set_option maxRecDepth 100000 in
set_option maxHeartbeats 4000000 in
theorem rr_code (hc : c = 0 → b = []) (hb : b.length ≤ 90000000) (htt : ∀ t ∈ ts, t.t < 256) :
    ∃ code, Try.f15.body = some code ∧
    Tells (Rets (PrZ (rrPar b n ts g))) X (evT X) 15 0 code [(0, .ro c (.pb b) 1), (1, .int .i64 n), (2, .ro ct (.pr 2 (ts.map Ty.pay)) 3), (3, .ro cg (.pc (g.map .bool)) 4)] [] := by
  refine ⟨_, rfl, ?_⟩
  obtain ⟨TS, hTS⟩ : ∃ TS : AV, TS = .ro ct (.pr 2 (ts.map Ty.pay)) 3 := ⟨_, rfl⟩
  obtain ⟨G, hG⟩ : ∃ G : AV, G = .ro cg (.pc (g.map .bool)) 4 := ⟨_, rfl⟩
  rw [← hTS, ← hG]
  apply Tells.seq (fr' := [(0, .ro c (.pb b) 1), (1, .int .i64 n), (2, TS), (3, G)]) (H' := [some nilP])
  · (refine ⟨0, ?_⟩; simp (maxSteps := 2000000) -implicitDefEqProofs [-getElem?_pos, List.getElem?_cons_zero, List.getElem?_cons_succ, go_sem, eqV, plen, loadV, storeV, assignV, emP])
  apply Tells.assoc
  by_cases h1 : n < 0 ∨ 65535 < n
  · have hr : rrPar b n ts g = ([], false, 2) := if_pos h1
    rw [hr]
    refine Tells.of (o := ⟨.ret, [(8, .sl 1 0 0 0), (9, .bool false), (10, .int .i64 2)], [some nilP, some nilP]⟩) ?_ ⟨rfl, PrZ.bad rfl rfl rfl rfl⟩
    rcases h1 with h | h
    · refine ⟨0, ?_⟩
      simp (maxSteps := 2000000) -implicitDefEqProofs [-getElem?_pos, List.getElem?_cons_zero, List.getElem?_cons_succ, go_sem, eqV, plen, loadV, storeV, h, assignV, emP]
    · have h' : ¬ n < 0 := by omega
      refine ⟨0, ?_⟩
      simp (maxSteps := 2000000) -implicitDefEqProofs [-getElem?_pos, List.getElem?_cons_zero, List.getElem?_cons_succ, go_sem, eqV, plen, loadV, storeV, h, h', assignV, emP]
  have n0 : ¬ n < 0 := by omega
  have n1 : ¬ 65535 < n := by omega
  obtain ⟨m, rfl⟩ : ∃ m : Nat, n = (m : Nat) := ⟨n.toNat, by omega⟩
  apply Tells.seq (fr' := [(0, .ro c (.pb b) 1), (1, .int .i64 (m : Nat)), (2, TS), (3, G), (25, .bool false)]) (H' := [some nilP])
  · (refine ⟨0, ?_⟩; simp (maxSteps := 2000000) -implicitDefEqProofs [-getElem?_pos, List.getElem?_cons_zero, List.getElem?_cons_succ, go_sem, eqV, plen, loadV, storeV, n0, n1])
  apply Tells.seq (fr' := [(0, .ro c (.pb b) 1), (1, .int .i64 (m : Nat)), (2, TS), (3, G), (25, .bool false)]) (H' := [some nilP])
  · exact condF (by simp [evalO, getF]) ⟨0, rfl⟩
  have hbd := bdF c 1 b
  apply Tells.seq (fr' := [(1, .int .i64 (m : Nat)), (2, TS), (3, G), (11, .ptr 1 0 0 0)]) (H' := [some nilP, some (rdO c 1 0 (b, 0))])
  · (refine ⟨0, ?_⟩; simp (maxSteps := 2000000) -implicitDefEqProofs [-getElem?_pos, List.getElem?_cons_zero, List.getElem?_cons_succ, go_sem, eqV, plen, loadV, storeV, hbd, rdO, assignV, flatCells, splice, scalars, scalar])
  apply Tells.assoc
  by_cases hm0 : m = 0
  · subst hm0
    have hr : rrPar b ((0 : Nat) : Int) ts g = ([], false, wr (decide (0 < b.length)) 0) := by unfold rrPar; rw [if_neg h1, if_pos (show ((0 : Nat) : Int) = 0 from rfl)]
    rw [hr]
    have hD := doneF_ev (H := [some nilP, some (rdO c 1 0 (b, 0))]) (o := 1) (p := .pb b) (l := b) (e := 0) (c := c) (t := 1) (tg := 0) (k := 1) rfl (.inl rfl) (jt0 c (b, 0))
    generalize wr (decide (0 < b.length)) 0 = e at *
    refine Tells.of (o := ⟨.ret, [(8, .sl 2 0 0 0), (9, .bool false), (10, .int .i64 e)], [some nilP, some (bxO (.pb b) c 1 1 e), some nilP]⟩) ⟨0, ?_⟩ ⟨rfl, PrZ.bad rfl rfl rfl rfl⟩
    simp (maxSteps := 2000000) -implicitDefEqProofs [-getElem?_pos, List.getElem?_cons_zero, List.getElem?_cons_succ, go_sem, eqV, plen, loadV, storeV, hD, assignV, emP]
  have hmb : (((m : Nat) : Int) == 0) = false := beq_eq_false_iff_ne.2 (by omega)
  have hR : rrPar b (m : Nat) ts g = rrZ (fx 1 (rrS1 b m g)).1 (rrL b m ts g) := by
    unfold rrPar
    rw [if_neg h1, if_neg (by omega)]
    rfl
  rw [hR]
  apply Tells.seq (fr' := [(1, .int .i64 (m : Nat)), (2, TS), (3, G), (11, .ptr 1 0 0 0), (30, .bool false)]) (H' := [some nilP, some (rdO c 1 0 (b, 0))])
  · (refine ⟨0, ?_⟩; simp (maxSteps := 2000000) -implicitDefEqProofs [-getElem?_pos, List.getElem?_cons_zero, List.getElem?_cons_succ, go_sem, eqV, plen, loadV, storeV, hmb, hm0])
  apply Tells.seq (fr' := [(1, .int .i64 (m : Nat)), (2, TS), (3, G), (11, .ptr 1 0 0 0), (30, .bool false)]) (H' := [some nilP, some (rdO c 1 0 (b, 0))])
  · exact condF (by simp [evalO, getF]) ⟨0, rfl⟩
  have w7 : IntKind.i64.wrap ((m : Int) + 7) = ((m + 7 : Nat) : Int) := by rw [wrap_i64 (by omega) (by omega)]; omega
  have w8 : IntKind.i64.wrap (Int.tdiv ((m + 7 : Nat) : Int) 8) = (((m + 7) / 8 : Nat) : Int) := by
    rw [Int.tdiv_eq_ediv_of_nonneg (by omega), wrap_i64 (by omega) (by omega)]; omega
  have w8' : IntKind.i64.wrap (((m + 7 : Nat) : Int) / 8) = (((m + 7) / 8 : Nat) : Int) := by
    rw [wrap_i64 (by omega) (by omega)]; omega
  obtain ⟨ob2, hw2, hB⟩ := bytes_ev (H := [some nilP, some (rdO c 1 0 (b, 0))]) (o := 1) (c := c) (t := 1) (tg := 0) (n := (m + 7) / 8) (N := (((m + 7) / 8 : Nat) : Int)) (s := (b, 0)) rfl rfl (jt0 c _) hc (by omega)
  have hdl : (rrD b m).length = (m + 7) / 8 := bts_len _ _
  have hd8 : m ≤ 8 * (rrD b m).length := by rw [hdl]; omega
  have hn1 := fx_nil (n := (m + 7) / 8) (s := (b, 0)) hc
  have hl1 := fx_len ((m + 7) / 8) (b, 0)
  simp only at hl1
  generalize hs0 : (fx ((m + 7) / 8) (b, 0)).2 = s0 at *
  have hw2' : Rw (.pb (rrD b m)) 0 ob2 := hw2
  clear hw2
  rw [show (AV.sl [some nilP, some (rdO c 1 0 (b, 0))].length 0 ((m + 7) / 8) 0) = .sl 2 0 (rrD b m).length 0 by rw [hdl]; rfl] at hB
  simp only [upd, List.set_cons_succ, List.set_cons_zero, List.cons_append, List.nil_append] at hB
  apply Tells.seq (fr' := [(1, .int .i64 (m : Nat)), (2, TS), (3, G), (11, .ptr 1 0 0 0), (12, .sl 2 0 (rrD b m).length 0)]) (H' := [some nilP, some (rdO c 1 1 s0), some ob2])
  · generalize (rrD b m).length = dl at *
    generalize (m + 7) / 8 = q at *
    generalize m + 7 = m7 at *
    (refine ⟨0, ?_⟩; simp (maxSteps := 2000000) -implicitDefEqProofs [-getElem?_pos, List.getElem?_cons_zero, List.getElem?_cons_succ, go_sem, eqV, plen, loadV, storeV, w7, w8, w8', hB, assignV])
  clear hB
  have hT := bt_ev (H := [some nilP, some (rdO c 1 1 s0), some ob2]) (a := .sl 2 0 (rrD b m).length 0) (b := rrD b m) (at' := 0) (n := m) (Byt.whole rfl hw2') (by omega) (by omega) (by omega)
  have hW := wr1 (H := [some nilP, some (rdO c 1 1 s0), some ob2]) (c := c) (s := s0) rfl (btF (rrD b m) 0 m)
  simp only [List.set_cons_succ, List.set_cons_zero] at hW
  have hS1 : rrS1 b m g = (s0.1, wr (lbF (rrD b m) g (min m g.length)) (wr (btF (rrD b m) 0 m) s0.2)) := by unfold rrS1; rw [hs0]
  apply Tells.seq (fr' := [(1, .int .i64 (m : Nat)), (2, TS), (3, G), (11, .ptr 1 0 0 0), (12, .sl 2 0 (rrD b m).length 0)]) (H' := [some nilP, some (rdO c 1 1 (s0.1, wr (btF (rrD b m) 0 m) s0.2)), some ob2])
  · generalize (rrD b m).length = dl at *
    generalize btF (rrD b m) 0 m = bt at *
    generalize rdO c 1 1 s0 = x1 at *
    generalize rdO c 1 1 (s0.1, wr bt s0.2) = x2 at *
    simp only [Int.cast_ofNat_Int] at hT
    (refine ⟨0, ?_⟩; simp (maxSteps := 2000000) -implicitDefEqProofs [-getElem?_pos, List.getElem?_cons_zero, List.getElem?_cons_succ, go_sem, eqV, plen, loadV, storeV, hT, hW])
  clear hT hW
  apply Tells.assoc
  apply Tells.seq (fr' := qlFr m (rrD b m) cg g TS 0) (H' := [some nilP, some (rdO c 1 1 (s0.1, wr (btF (rrD b m) 0 m) s0.2)), some ob2])
  · unfold qlFr
    rw [← hG]
    generalize (rrD b m).length = dl at *
    generalize rdO c 1 1 (s0.1, wr (btF (rrD b m) 0 m) s0.2) = x2 at *
    (refine ⟨0, ?_⟩; simp (maxSteps := 2000000) -implicitDefEqProofs [-getElem?_pos, List.getElem?_cons_zero, List.getElem?_cons_succ, go_sem, eqV, plen, loadV, storeV])
  apply Tells.andThen (P := fun fr H => fr = qlFr m (rrD b m) cg g TS (min m g.length) ++ [(51, .bool false)] ∧ H = [some nilP, some (rdO c 1 1 (rrS1 b m g)), some ob2])
  · have := piece (ql_loop c m (rrD b m) cg g TS (s0.1, wr (btF (rrD b m) 0 m) s0.2) ob2 hw2' (by omega) hd8) _ rfl
    rw [hS1]
    exact this
  rintro fr H ⟨rfl, rfl⟩
  have hc1 : c = 0 → (rrS1 b m g).1 = [] := by rw [hS1]; exact hn1
  have hL1 : (rrS1 b m g).1.length ≤ b.length := by rw [hS1]; exact hl1
  clear hS1
  have hBy := by1 (H := [some nilP, some (rdO c 1 1 (rrS1 b m g)), some ob2]) (c := c) (s := rrS1 b m g) rfl hc1
  simp only [List.set_cons_succ, List.set_cons_zero] at hBy
  have hvl := fx_lt (n := 1) (rrS1 b m g)
  have hn2 := fx_nil (n := 1) (s := rrS1 b m g) hc1
  have hl2 := fx_len 1 (rrS1 b m g)
  have hS2 : rrS2 b m g = ((fx 1 (rrS1 b m g)).2.1, wr (decide (1 < (fx 1 (rrS1 b m g)).1)) (fx 1 (rrS1 b m g)).2.2) := rfl
  have hO : rrO b m ts g = tzF (decide ((fx 1 (rrS1 b m g)).1 = 1)) ts m 0 [] (rrS2 b m g) := rfl
  have hLL : rrL b m ts g = rlF (rrD b m) g (rrO b m ts g).1 m 0 [] (rrO b m ts g).2 := rfl
  rw [hLL]
  generalize fx 1 (rrS1 b m g) = xv at *
  obtain ⟨v, s3⟩ := xv
  simp only at hvl hn2 hl2 hS2 hO hBy ⊢
  apply Tells.seq (fr' := [(1, .int .i64 (m : Nat)), (2, TS), (3, G), (11, .ptr 1 0 0 0), (12, .sl 2 0 (rrD b m).length 0), (14, .int .u8 (v : Nat))]) (H' := [some nilP, some (rdO c 1 1 s3), some ob2])
  · unfold qlFr
    rw [← hG]
    generalize (rrD b m).length = dl at *
    generalize min m g.length = mg at *
    generalize rdO c 1 1 (rrS1 b m g) = x1 at *
    generalize rdO c 1 1 s3 = x2 at *
    (refine ⟨0, ?_⟩; simp (maxSteps := 2000000) -implicitDefEqProofs [-getElem?_pos, List.getElem?_cons_zero, List.getElem?_cons_succ, go_sem, eqV, plen, loadV, storeV, hBy])
  clear hBy
  have hW := wr1 (H := [some nilP, some (rdO c 1 1 s3), some ob2]) (c := c) (s := s3) rfl (decide (1 < v))
  simp only [List.set_cons_succ, List.set_cons_zero] at hW
  rw [← hS2] at hW
  have q1 : decide ((1 : Int) < (v : Int)) = decide (1 < v) := by
    by_cases h : 1 < v
    · rw [decide_eq_true h, decide_eq_true (by omega)]
    · rw [decide_eq_false h, decide_eq_false (by omega)]
  have q2 : ((v : Int) == 1) = decide (v = 1) := by
    by_cases h : v = 1
    · subst h; rfl
    · have : ((v : Int) == 1) = false := beq_eq_false_iff_ne.2 (by omega)
      rw [this]; simp [h]
  have hc2 : c = 0 → (rrS2 b m g).1 = [] := by rw [hS2]; exact hn2
  have hL2 : (rrS2 b m g).1.length ≤ b.length := by rw [hS2]; simp only; omega
  clear hS2
  apply Tells.seq (fr' := [(1, .int .i64 (m : Nat)), (2, TS), (3, G), (11, .ptr 1 0 0 0), (12, .sl 2 0 (rrD b m).length 0), (14, .int .u8 (v : Nat))]) (H' := [some nilP, some (rdO c 1 1 (rrS2 b m g)), some ob2])
  · generalize (rrD b m).length = dl at *
    generalize rdO c 1 1 (rrS2 b m g) = x1 at *
    generalize rdO c 1 1 s3 = x2 at *
    by_cases hv1 : 1 < v
    · have hv1i : (1 : Int) < (v : Int) := by omega
      rw [decide_eq_true hv1] at hW
      (refine ⟨0, ?_⟩; simp (maxSteps := 2000000) -implicitDefEqProofs [-getElem?_pos, List.getElem?_cons_zero, List.getElem?_cons_succ, go_sem, eqV, plen, loadV, storeV, hv1, hv1i, hW])
    · have hv1i : ¬ (1 : Int) < (v : Int) := by omega
      rw [decide_eq_false hv1] at hW
      (refine ⟨0, ?_⟩; simp (maxSteps := 2000000) -implicitDefEqProofs [-getElem?_pos, List.getElem?_cons_zero, List.getElem?_cons_succ, go_sem, eqV, plen, loadV, storeV, hv1, hv1i, hW])
  clear hW
  obtain ⟨hcn, ob3, hw3, hTz⟩ := tz_ev (H := [some nilP, some (rdO c 1 1 (rrS2 b m g)), some ob2]) (o := 1) (c := c) (t := 1) (tg := 1) (n := m) (s := rrS2 b m g) (bd := decide (v = 1)) (A := TS) (ks := ts) rfl (jt c 1 _) hc2 (by omega) htt ct 3 hTS
  obtain ⟨hot, hol, hoL⟩ := tzF_ok (bd := decide (v = 1)) htt m 0 [] (rrS2 b m g) (fun t h => by cases h)
  rw [← hO] at hcn hw3 hTz hot hol hoL
  clear hO hLL
  generalize rrO b m ts g = xo at *
  obtain ⟨own, s4⟩ := xo
  simp only at hcn hw3 hTz hot hol hoL ⊢
  simp only [upd, List.set_cons_succ, List.set_cons_zero, List.cons_append, List.nil_append] at hTz
  rw [show [some nilP, some (rdO c 1 1 (rrS2 b m g)), some ob2].length = 3 from rfl] at hTz
  apply Tells.seq (fr' := [(1, .int .i64 (m : Nat)), (3, G), (11, .ptr 1 0 0 0), (12, .sl 2 0 (rrD b m).length 0), (14, .int .u8 (v : Nat)), (15, .sl 3 0 own.length 0)]) (H' := [some nilP, some (rdO c 1 1 s4), some ob2, some ob3])
  · generalize (rrD b m).length = dl at *
    generalize own.length = ol at *
    generalize rdO c 1 1 (rrS2 b m g) = x1 at *
    generalize rdO c 1 1 s4 = x2 at *
    (refine ⟨0, ?_⟩; simp (maxSteps := 2000000) -implicitDefEqProofs [-getElem?_pos, List.getElem?_cons_zero, List.getElem?_cons_succ, go_sem, eqV, plen, loadV, storeV, q2, hTz, assignV])
  clear hTz
  apply Tells.seq (fr' := [(1, .int .i64 (m : Nat)), (3, G), (11, .ptr 1 0 0 0), (12, .sl 2 0 (rrD b m).length 0), (14, .int .u8 (v : Nat)), (15, .sl 3 0 own.length 0), (16, .sl 4 0 0 0)]) (H' := [some nilP, some (rdO c 1 1 s4), some ob2, some ob3, some nilP])
  · generalize (rrD b m).length = dl at *
    generalize own.length = ol at *
    generalize rdO c 1 1 s4 = x2 at *
    (refine ⟨0, ?_⟩; simp (maxSteps := 2000000) -implicitDefEqProofs [-getElem?_pos, List.getElem?_cons_zero, List.getElem?_cons_succ, go_sem, eqV, plen, loadV, storeV, assignV, emP])
  apply Tells.assoc
  apply Tells.seq (fr' := qrFr m (rrD b m) cg g own v 0 []) (H' := [some nilP, some (rdO c 1 1 s4), some ob2, some ob3, some nilP])
  · unfold qrFr
    rw [← hG]
    generalize (rrD b m).length = dl at *
    generalize own.length = ol at *
    generalize rdO c 1 1 s4 = x2 at *
    (refine ⟨0, ?_⟩; simp (maxSteps := 2000000) -implicitDefEqProofs [-getElem?_pos, List.getElem?_cons_zero, List.getElem?_cons_succ, go_sem, eqV, plen, loadV, storeV])
  have hQ : QrHp c (rrD b m) own [some nilP, some (rdO c 1 1 s4), some ob2, some ob3, some nilP] s4 [] 0 := ⟨rfl, hcn, ⟨ob2, rfl, hw2'⟩, ⟨ob3, rfl, hw3⟩, ⟨nilP, rfl, nilP_rw⟩⟩
  apply Tells.andThen (piece (qr_loop c m (rrD b m) cg g own v s4 _ (by omega) hd8 (by omega) (fun h => by have := hol h; simpa using this) hot (by omega) hQ) _ rfl)
  rintro fr H ⟨i, hi, rfl, hH⟩
  have hlen : (rlF (rrD b m) g own m 0 [] s4).2.1.length ≤ 90000000 := by have := rlF_len (rrD b m) g own m 0 [] s4; omega
  generalize rlF (rrD b m) g own m 0 [] s4 = xl at *
  obtain ⟨a, s5⟩ := xl
  exact piece (rr_tail c m (rrD b m) cg g own v s5 H i a hlen (by omega) hi.symm hH) _ rfl

end

end Go.Proofs.Ytbmddnokokoofaa

/- Plain: both readings of parameters agree. -/
namespace Go.Proofs.Ytbmddnokokoofaa
open Go.AM
set_option linter.unusedSimpArgs false
set_option linter.unusedVariables false

theorem wr_bad {bad : Bool} {e : Int} (h : e ≠ 0) : wr bad e = e := if_neg (fun x => h x.1)
theorem wr_no (e : Int) : wr false e = e := if_neg (by simp)
theorem wr_yes : wr true 0 = 5 := rfl
theorem fx_bad {n : Nat} {s : St} (h : s.2 ≠ 0) : fx n s = (0, s) := if_pos h

theorem tzS_bad {bd : Bool} {ks : List Ty} {i : Nat} {s : St} (h : s.2 ≠ 0) : (tzS bd ks i s).2.2 = s.2 := by
  unfold tzS
  split
  · rw [fx_bad h]
    simp only
    rw [wr_bad h, fx_bad h]
    simp only
    rw [wr_bad h]
  · split
    · simp only; rw [wr_bad h]
    · simp only; rw [wr_bad h]
theorem tzF_bad {bd : Bool} {ks : List Ty} {k i : Nat} {a : List Ty} {s : St} (h : s.2 ≠ 0) : tzF bd ks k i a s = (a, s) := by
  cases k with
  | zero => rfl
  | succ k => rw [tzF, if_pos h]
theorem rlF_bad {d : List UInt8} {g : List Bool} {own : List Ty} {k i : Nat} {a : List Pm} {s : St} (h : s.2 ≠ 0) : rlF d g own k i a s = (a, s) := by
  cases k with
  | zero => rfl
  | succ k => rw [rlF, if_pos h]
theorem rrZ_bad {v : Nat} {x : List Pm × St} (h : x.2.2 ≠ 0) : rrZ v x = ([], false, x.2.2) := by
  unfold rrZ
  rw [wr_bad h, if_pos h]

/-- once something is wrong, it is told -/
theorem rr_bad1 {b : List UInt8} {m : Nat} {ts : List Ty} {g : List Bool} {e : Int} (h : e ≠ 0) (h1 : (rrS1 b m g).2 = e) : rrZ (fx 1 (rrS1 b m g)).1 (rrL b m ts g) = ([], false, e) := by
  subst h1
  have hs : (rrS2 b m g).2 = (rrS1 b m g).2 := by unfold rrS2; rw [fx_bad h]; simp only; rw [wr_bad h]
  have ho : (rrO b m ts g).2 = rrS2 b m g := by unfold rrO; rw [tzF_bad (by rw [hs]; exact h)]
  have hl : (rrL b m ts g).2.2 = (rrS1 b m g).2 := by unfold rrL; rw [rlF_bad (by rw [ho, hs]; exact h)]; simp only; rw [ho, hs]
  rw [rrZ_bad (by rw [hl]; exact h), hl]
theorem rr_bad2 {b : List UInt8} {m : Nat} {ts : List Ty} {g : List Bool} {e : Int} {v : Nat} (h : e ≠ 0) (h1 : (rrS2 b m g).2 = e) : rrZ v (rrL b m ts g) = ([], false, e) := by
  subst h1
  have ho : (rrO b m ts g).2 = rrS2 b m g := by unfold rrO; rw [tzF_bad h]
  have hl : (rrL b m ts g).2.2 = (rrS2 b m g).2 := by unfold rrL; rw [rlF_bad (by rw [ho]; exact h)]; simp only; rw [ho]
  rw [rrZ_bad (by rw [hl]; exact h), hl]
theorem rr_bad3 {b : List UInt8} {m : Nat} {ts : List Ty} {g : List Bool} {e : Int} {v : Nat} (h : e ≠ 0) (h1 : (rrO b m ts g).2.2 = e) : rrZ v (rrL b m ts g) = ([], false, e) := by
  subst h1
  have hl : (rrL b m ts g).2.2 = (rrO b m ts g).2.2 := by unfold rrL; rw [rlF_bad h]
  rw [rrZ_bad (by rw [hl]; exact h), hl]

theorem bitB_take {b : List UInt8} {q i : Nat} (h : i / 8 < q) : bitB (b.take q) i = bitB b i := by
  unfold bitB
  rw [List.getD, List.getD, List.getElem?_take_of_lt h]

/-- the parameters one behind the other -/
theorem pr_rl {b : List UInt8} {q : Nat} {g : List Bool} {own : List Ty} {v : Nat} : ∀ (k i : Nat) (a : List Pm) (r : List UInt8), (i + k + 7) / 8 ≤ q → rrZ v (rlF (b.take q) g own k i a (r, 0)) = prZ v (prF b g own k i a r)
  | 0, i, a, r, h => by
    show rrZ v (a, (r, 0)) = prZ v (a, r, 0)
    unfold rrZ prZ
    simp only
    by_cases hr : 0 < r.length
    · rw [decide_eq_true hr, wr_yes, if_pos (by decide), if_neg (by simp), if_pos hr]
    · rw [decide_eq_false hr, wr_no, if_neg (by simp), if_neg (by simp), if_neg hr]
  | k + 1, i, a, r, h => by
    rw [rlF, if_neg (by simp), prF, bitB_take (by omega)]
    by_cases h1 : lgB g i = true ∨ bitB b i = true
    · rw [if_pos h1, if_pos h1, wr_no]
      exact pr_rl k (i + 1) _ r (by omega)
    · rw [if_neg h1, if_neg h1]
      by_cases h6 : (tyI own i).t = 6
      · rw [decide_eq_true h6, if_pos h6]
        simp only [wr_yes]
        have hv : vlF (r, 5) (tyI own i) = ({}, (r, 5)) := if_pos (by simp)
        rw [hv, rlF_bad (by simp), rrZ_bad (by simp)]
        rfl
      · rw [decide_eq_false h6, if_neg h6]
        simp only [wr_no]
        have hv : vlF (r, 0) (tyI own i) = ((rdV r (tyI own i)).1, r.drop (rdV r (tyI own i)).2.1, (rdV r (tyI own i)).2.2) := if_neg (by simp)
        rw [hv]
        simp only
        by_cases he : (rdV r (tyI own i)).2.2 = 0
        · rw [if_neg (by simpa using he), he]
          exact pr_rl k (i + 1) _ _ (by omega)
        · rw [if_pos he, rlF_bad he, rrZ_bad he]
          unfold prZ
          rw [if_pos he]

end Go.Proofs.Ytbmddnokokoofaa

/- Plain: both readings of parameters' types agree. -/
namespace Go.Proofs.Ytbmddnokokoofaa
open Go.AM
set_option linter.unusedSimpArgs false
set_option linter.unusedVariables false

theorem fx1_nil : fx 1 ([], 0) = (0, [], 4) := rfl
theorem fx1_cons (y : UInt8) (r : List UInt8) : fx 1 (y :: r, 0) = (y.toNat, r, 0) := by
  unfold fx
  rw [if_neg (by simp), if_neg (by simp)]
  simp [leV]
theorem fx5 (l : List UInt8) : fx 1 (l, 5) = (0, (l, 5)) := fx_bad (show (5 : Int) ≠ 0 by decide)
theorem kind_kn (t : Nat) (u : Bool) : decide (kindN t u < 0) = !kn t := by
  unfold kindN
  cases h : kn t with
  | false => simp
  | true =>
    rw [if_neg (by simp)]
    have : ¬ (if t = 1 ∨ t = 2 ∨ t = 13 ∨ t = 3 ∨ t = 9 ∨ t = 8 then (if u then 2 else 1) else if t = 4 then 3 else if t = 5 then 4 else if t = 7 ∨ t = 10 ∨ t = 12 then 5 else if t = 11 then 6 else if t = 6 then 0 else 7 : Int) < 0 := by
      repeat' split
      all_goals omega
    rw [decide_eq_false this]; rfl

/-- types that were known -/
theorem tz_kn {ts : List Ty} {r : List UInt8} : ∀ (k i : Nat) (a : List Ty), (∀ j, i ≤ j → j < i + k → j < ts.length ∧ kn (tyI ts j).t = true) → tzF false ts k i a (r, 0) = (a ++ (ts.drop i).take k, (r, 0))
  | 0, i, a, h => by simp [tzF]
  | k + 1, i, a, h => by
    obtain ⟨h1, h2⟩ := h i (Nat.le_refl _) (by omega)
    have hs : tzS false ts i (r, 0) = (tyI ts i, (r, 0)) := by
      unfold tzS
      rw [if_neg (by simp), if_pos h1, kind_kn, h2]
      rfl
    rw [tzF, if_neg (by simp), hs]
    rw [tz_kn k (i + 1) _ (fun j h3 h4 => h j (by omega) (by omega))]
    have ht : tyI ts i = ts[i] := by unfold tyI; rw [List.getD, List.getElem?_eq_getElem h1]; rfl
    rw [List.drop_eq_getElem_cons h1, List.take_succ_cons, ht]
    simp
theorem tz_unk {ts : List Ty} {r : List UInt8} : ∀ (k i : Nat) (a : List Ty), (∃ j, i ≤ j ∧ j < i + k ∧ ¬ (j < ts.length ∧ kn (tyI ts j).t = true)) → (tzF false ts k i a (r, 0)).2.2 = 5
  | 0, i, a, ⟨j, h1, h2, _⟩ => by omega
  | k + 1, i, a, ⟨j, h1, h2, h3⟩ => by
    rw [tzF, if_neg (by simp)]
    by_cases hi : i < ts.length ∧ kn (tyI ts i).t = true
    · have hs : tzS false ts i (r, 0) = (tyI ts i, (r, 0)) := by
        unfold tzS
        rw [if_neg (by simp), if_pos hi.1, kind_kn, hi.2]
        rfl
      rw [hs]
      refine tz_unk k (i + 1) _ ⟨j, ?_, by omega, h3⟩
      by_cases hj : j = i
      · subst hj; exact absurd hi h3
      · omega
    · have hs : (tzS false ts i (r, 0)).2.2 = 5 := by
        unfold tzS
        rw [if_neg (by simp)]
        by_cases hl : i < ts.length
        · rw [if_pos hl, kind_kn]
          have : kn (tyI ts i).t = false := by cases h : kn (tyI ts i).t with | true => exact absurd ⟨hl, h⟩ hi | false => rfl
          rw [this]; rfl
        · rw [if_neg hl]; rfl
      rw [tzF_bad (by rw [hs]; decide), hs]

/-- types that are told anew -/
theorem tz_told {b : List UInt8} {ts : List Ty} : ∀ (k i : Nat) (a : List Ty),
    (tyF b k i = 0 → tzF true ts k i a (b.drop (2 * i), 0) = (a ++ (List.range k).map (fun j => tyAt b (i + j)), (b.drop (2 * (i + k)), 0))) ∧
    (tyF b k i ≠ 0 → (tzF true ts k i a (b.drop (2 * i), 0)).2.2 = tyF b k i)
  | 0, i, a => ⟨fun _ => by simp [tzF], fun h => absurd rfl h⟩
  | k + 1, i, a => by
    have hE : tyE b i = if b.length < 2 * i + 1 then 4 else if kn (b.getD (2 * i) 0).toNat = false then 5 else if b.length < 2 * i + 2 then 4 else
      if (b.getD (2 * i + 1) 0).toNat ≠ 0 ∧ (b.getD (2 * i + 1) 0).toNat ≠ 128 then 5 else 0 := rfl
    have hS : tyF b (k + 1) i = if tyE b i ≠ 0 then tyE b i else tyF b k (i + 1) := rfl
    rw [tzF, if_neg (by simp)]
    have hat : ∀ j, (b.drop (2 * i))[j]? = b[2 * i + j]? := fun j => by rw [List.getElem?_drop]
    have hln : (b.drop (2 * i)).length = b.length - 2 * i := List.length_drop
    have hdd : ∀ j, (b.drop (2 * i)).drop j = b.drop (2 * i + j) := fun j => by rw [List.drop_drop]
    have key : (tyE b i = 0 → tzS true ts i (b.drop (2 * i), 0) = (tyAt b i, (b.drop (2 * (i + 1)), 0))) ∧ (tyE b i ≠ 0 → (tzS true ts i (b.drop (2 * i), 0)).2.2 = tyE b i) := by
      rw [hE]
      generalize hl : b.drop (2 * i) = l at *
      unfold tzS
      rw [if_pos rfl]
      match l with
      | [] =>
        have h1 : b.length < 2 * i + 1 := by simp at hln; omega
        rw [if_pos h1]
        refine ⟨fun h => by simp at h, fun _ => ?_⟩
        rw [fx1_nil]
        simp only
        rw [wr_bad (show (4 : Int) ≠ 0 by decide), fx_bad (by decide)]
        simp only
        rw [wr_bad (by decide)]
      | [y] =>
        have h1 : b.length = 2 * i + 1 := by simp at hln; omega
        have hy : b.getD (2 * i) 0 = y := by rw [List.getD, ← Nat.add_zero (2 * i), ← hat 0]; rfl
        rw [if_neg (by omega), hy]
        rw [fx1_cons]
        simp only [kind_kn]
        cases hk : kn y.toNat with
        | false =>
          rw [if_pos rfl]
          refine ⟨fun h => by simp at h, fun _ => ?_⟩
          show wr _ (fx 1 ([], wr true 0)).2.2 = 5
          rw [wr_yes, fx5]
          exact wr_bad (show (5 : Int) ≠ 0 by decide)
        | true =>
          rw [if_neg (by simp), if_pos (by omega)]
          refine ⟨fun h => by simp at h, fun _ => ?_⟩
          show wr _ (fx 1 ([], wr false 0)).2.2 = 4
          rw [wr_no, fx1_nil]
          simp only
          rw [wr_bad (by decide)]
      | y :: z :: r =>
        have h1 : 2 * i + 2 ≤ b.length := by simp at hln; omega
        have hy : b.getD (2 * i) 0 = y := by rw [List.getD, ← Nat.add_zero (2 * i), ← hat 0]; rfl
        have hz : b.getD (2 * i + 1) 0 = z := by rw [List.getD, ← hat 1]; rfl
        have hr : b.drop (2 * (i + 1)) = r := by rw [show 2 * (i + 1) = 2 * i + 2 by omega, ← hdd 2]; rfl
        have hta : tyAt b i = ⟨y.toNat, z.toNat != 0⟩ := by unfold tyAt; rw [hy, hz]
        rw [if_neg (by omega), hy, hz, hr, hta]
        rw [fx1_cons]
        simp only [kind_kn]
        cases hk : kn y.toNat with
        | false =>
          rw [if_pos rfl]
          refine ⟨fun h => by simp at h, fun _ => ?_⟩
          show wr _ (fx 1 (z :: r, wr true 0)).2.2 = 5
          rw [wr_yes, fx5]
          exact wr_bad (show (5 : Int) ≠ 0 by decide)
        | true =>
          rw [if_neg (by simp), if_neg (by omega)]
          simp only [Bool.not_true, wr_no]
          rw [fx1_cons]
          simp only
          by_cases hb : z.toNat ≠ 0 ∧ z.toNat ≠ 128
          · rw [if_pos hb, decide_eq_true hb.1, decide_eq_true hb.2]
            exact ⟨fun h => by simp at h, fun _ => rfl⟩
          · rw [if_neg hb]
            refine ⟨fun _ => ?_, fun h => absurd rfl h⟩
            have hw : (decide (z.toNat ≠ 0) && decide (z.toNat ≠ 128)) = false := by
              simp; intro h0; exact Classical.byContradiction fun h2 => hb ⟨h0, h2⟩
            rw [hw, wr_no]
            congr 2
            by_cases h0 : z.toNat = 0
            · rw [h0]; rfl
            · have h2 : z.toNat = 128 := Classical.byContradiction fun h2 => hb ⟨h0, h2⟩
              rw [h2]; rfl
    obtain ⟨ih1, ih2⟩ := tz_told (b := b) (ts := ts) k (i + 1) (a ++ [tyAt b i])
    by_cases he : tyE b i = 0
    · rw [key.1 he, hS, if_neg (by simpa using he)]
      simp only
      refine ⟨fun h => ?_, ih2⟩
      rw [ih1 h, List.range_succ_eq_map, List.map_cons, List.map_map, show i + 1 + k = i + (k + 1) by omega]
      simp only [List.append_assoc, List.cons_append, List.nil_append, Nat.add_zero]
      congr 3
      apply List.map_congr_left
      intro j _
      show tyAt b (i + 1 + j) = tyAt b (i + (j + 1))
      rw [show i + 1 + j = i + (j + 1) by omega]
    · have h5 := key.2 he
      rw [hS, if_pos he]
      refine ⟨fun h => absurd h he, fun _ => ?_⟩
      rw [tzF_bad (by rw [h5]; exact he), h5]

end Go.Proofs.Ytbmddnokokoofaa

/- Plain: both readings of parameters agree: whole. -/
namespace Go.Proofs.Ytbmddnokokoofaa
open Go.AM
set_option linter.unusedSimpArgs false
set_option linter.unusedVariables false

/-- the bits that are none, looked at in two ways -/
theorem bits_eq {b : List UInt8} {m : Nat} {g : List Bool} {q : Nat} (hq : q = (m + 7) / 8) (hb : q ≤ b.length) :
    (List.range (8 * q)).any (bxB b g m) = (btF (b.take q) 0 m || lbF (b.take q) g (min m g.length)) := by
  rw [Bool.eq_iff_iff, Bool.or_eq_true]
  unfold btF lbF
  rw [List.any_eq_true, List.any_eq_true, List.any_eq_true]
  have hl : (b.take q).length = q := by rw [List.length_take]; omega
  rw [hl]
  constructor
  · rintro ⟨i, hi, h⟩
    have hi := List.mem_range.1 hi
    unfold bxB at h
    rw [Bool.and_eq_true, Bool.or_eq_true, decide_eq_true_eq] at h
    by_cases hm : m ≤ i
    · left
      refine ⟨i, List.mem_range.2 hi, ?_⟩
      unfold btX
      rw [bitB_take (by omega), h.1]
      simp; omega
    · right
      have hlg : lgB g i = true := by rcases h.2 with h | h; exact absurd h hm; exact h
      have hig : i < g.length := by
        refine Classical.byContradiction fun hn => ?_
        unfold lgB at hlg
        rw [List.getD, List.getElem?_eq_none (by omega)] at hlg
        simp at hlg
      exact ⟨i, List.mem_range.2 (by omega), by rw [bitB_take (by omega), h.1, hlg]; rfl⟩
  · rintro (⟨i, hi, h⟩ | ⟨i, hi, h⟩)
    · have hi := List.mem_range.1 hi
      unfold btX at h
      rw [bitB_take (by omega)] at h
      simp at h
      refine ⟨i, List.mem_range.2 hi, ?_⟩
      unfold bxB
      rw [h.2]
      simp [h.1]
    · have hi := List.mem_range.1 hi
      rw [bitB_take (by omega)] at h
      simp at h
      refine ⟨i, List.mem_range.2 (by omega), ?_⟩
      unfold bxB
      rw [h.1, h.2]
      simp

theorem rr_eq (b : List UInt8) (n : Int) (ts : List Ty) (g : List Bool) : rrPar b n ts g = rdPar b n ts g := by
  unfold rrPar
  by_cases h1 : n < 0 ∨ 65535 < n
  · rw [if_pos h1]; unfold rdPar; rw [if_pos h1]
  rw [if_neg h1]
  by_cases h0 : n = 0
  · rw [if_pos h0]
    unfold rdPar
    rw [if_neg h1, if_pos h0]
    by_cases hb : 0 < b.length
    · rw [if_pos hb, decide_eq_true hb]; rfl
    · rw [if_neg hb, decide_eq_false hb]; rfl
  rw [if_neg h0]
  obtain ⟨m, rfl⟩ : ∃ m : Nat, n = (m : Nat) := ⟨n.toNat, by omega⟩
  rw [Int.toNat_natCast, rdPar_mid b m ts g (by omega) (by omega)]
  have hS1 : rrS1 b m g = ((fx ((m + 7) / 8) (b, 0)).2.1, wr (lbF (rrD b m) g (min m g.length)) (wr (btF (rrD b m) 0 m) (fx ((m + 7) / 8) (b, 0)).2.2)) := rfl
  have hfx : fx ((m + 7) / 8) (b, 0) = if b.length < (m + 7) / 8 then (0, b, 4) else (leV (b.take ((m + 7) / 8)), b.drop ((m + 7) / 8), 0) := if_neg (by simp)
  by_cases hq : b.length < (m + 7) / 8
  · rw [if_pos hq]
    rw [if_pos hq] at hfx
    refine rr_bad1 (by decide) ?_
    rw [hS1, hfx]
    simp only
    rw [wr_bad (by rw [wr_bad (by decide)]; decide), wr_bad (by decide)]
  rw [if_neg hq]
  rw [if_neg hq] at hfx
  have hD : rrD b m = b.take ((m + 7) / 8) := by
    unfold rrD bts
    rw [if_neg (by simpa using hq)]
  rw [hfx, hD, wr_wr] at hS1
  simp only at hS1
  rw [← bits_eq rfl (by omega)] at hS1
  cases hbx : (List.range (8 * ((m + 7) / 8))).any (bxB b g m) with
  | true =>
    rw [if_pos rfl]
    rw [hbx] at hS1
    exact rr_bad1 (by decide) (by rw [hS1]; rfl)
  | false =>
  rw [if_neg (by simp)]
  rw [hbx, wr_no] at hS1
  have hv : (fx 1 (rrS1 b m g)) = fx 1 (b.drop ((m + 7) / 8), 0) := by rw [hS1]
  have hS2 : rrS2 b m g = ((fx 1 (rrS1 b m g)).2.1, wr (decide (1 < (fx 1 (rrS1 b m g)).1)) (fx 1 (rrS1 b m g)).2.2) := rfl
  have hO : rrO b m ts g = tzF (decide ((fx 1 (rrS1 b m g)).1 = 1)) ts m 0 [] (rrS2 b m g) := rfl
  rw [hv] at hS2 hO ⊢
  have hL : rrL b m ts g = rlF (rrD b m) g (rrO b m ts g).1 m 0 [] (rrO b m ts g).2 := rfl
  rw [hD] at hL
  generalize b.drop ((m + 7) / 8) = rr at *
  match rr with
  | [] =>
    rw [fx1_nil] at hS2 ⊢
    exact rr_bad2 (by decide) (by rw [hS2]; rfl)
  | y :: r =>
  rw [fx1_cons] at hS2 hO ⊢
  simp only at hS2 hO ⊢
  by_cases hy0 : y.toNat = 0
  · have hM : rdMid b m ts g (y :: r) = (if ts.length < m then ([], false, 5) else if (ts.take m).any (fun t => !kn t.t) then ([], false, 5) else prZ 0 (prF b g (ts.take m) m 0 [] r)) := if_pos hy0
    rw [hM, hy0]
    rw [hy0] at hS2 hO
    rw [hS2] at hO
    have hO : rrO b m ts g = tzF false ts m 0 [] (r, 0) := hO
    by_cases hall : ∀ j, 0 ≤ j → j < 0 + m → j < ts.length ∧ kn (tyI ts j).t = true
    · rw [tz_kn m 0 [] hall] at hO
      have hlt : ¬ ts.length < m := fun h => by have := (hall ts.length (by omega) (by omega)).1; omega
      have hany : ¬ (ts.take m).any (fun t => !kn t.t) = true := by
        intro h
        obtain ⟨t, ht, hk⟩ := List.any_eq_true.1 h
        obtain ⟨j, hj, rfl⟩ := List.mem_iff_getElem.1 ht
        rw [List.length_take] at hj
        have h2 := (hall j (by omega) (by omega)).2
        have : tyI ts j = (ts.take m)[j]'(by rw [List.length_take]; exact hj) := by
          unfold tyI
          rw [List.getD, List.getElem?_eq_getElem (by omega), List.getElem_take]; rfl
        rw [← this, h2] at hk
        simp at hk
      rw [if_neg hlt, if_neg hany, hL, hO]
      simp only [List.nil_append, List.drop_zero]
      exact pr_rl m 0 [] r (by omega)
    · have hb5 := tz_unk (r := r) m 0 [] (by
        refine Classical.byContradiction fun hn => hall fun j h1 h2 => Classical.byContradiction fun h3 => hn ⟨j, h1, h2, h3⟩)
      have hres : (if ts.length < m then (([] : List Pm), false, (5 : Int)) else if (ts.take m).any (fun t => !kn t.t) then ([], false, 5) else prZ 0 (prF b g (ts.take m) m 0 [] r)) = ([], false, 5) := by
        by_cases hlt : ts.length < m
        · rw [if_pos hlt]
        · rw [if_neg hlt, if_pos]
          refine Classical.byContradiction fun hn => hall fun j _ h2 => ⟨by omega, ?_⟩
          rw [List.any_eq_true] at hn
          have hj : j < (ts.take m).length := by rw [List.length_take]; omega
          have : tyI ts j = (ts.take m)[j] := by
            unfold tyI
            rw [List.getD, List.getElem?_eq_getElem (by omega), List.getElem_take]; rfl
          rw [this]
          cases hk : kn ((ts.take m)[j]).t with
          | true => rfl
          | false => exact absurd ⟨_, List.getElem_mem hj, by rw [hk]; rfl⟩ hn
      rw [hres]
      exact rr_bad3 (by decide) (by rw [hO]; exact hb5)
  by_cases hy1 : y.toNat = 1
  · have hM : rdMid b m ts g (y :: r) = (if (tyR r m).2 ≠ 0 then ([], false, (tyR r m).2) else prZ 1 (prF b g (tyR r m).1 m 0 [] (r.drop (2 * m)))) := (if_neg hy0).trans (if_pos hy1)
    rw [hM, hy1]
    rw [hy1] at hS2 hO
    rw [hS2] at hO
    have hO : rrO b m ts g = tzF true ts m 0 [] (r, 0) := hO
    obtain ⟨k1, k2⟩ := tz_told (b := r) (ts := ts) m 0 []
    simp only [Nat.mul_zero, List.drop_zero, Nat.zero_add, List.nil_append] at k1 k2
    by_cases hf : tyF r m 0 = 0
    · have ht : tyR r m = (tysL r m, 0) := if_neg (by simpa using hf)
      rw [ht, if_neg (by simp), hL, hO, k1 hf]
      exact pr_rl m 0 [] _ (by omega)
    · have ht : tyR r m = ([], tyF r m 0) := if_pos hf
      rw [ht, if_pos hf]
      exact rr_bad3 hf (by rw [hO]; exact k2 hf)
  · have hM : rdMid b m ts g (y :: r) = ([], false, 5) := (if_neg hy0).trans (if_neg hy1)
    rw [hM]
    exact rr_bad2 (by decide) (by rw [hS2]; simp only; rw [decide_eq_true (by omega)]; rfl)

end Go.Proofs.Ytbmddnokokoofaa

/- Events: readings of parameters. -/
namespace Go.Proofs.Ytbmddnokokoofaa
open Go.AM
set_option linter.unusedSimpArgs false
set_option linter.unusedVariables false

theorem pm_tags : ∀ l : List Pm, idsL (l.map Pm.pay) = [] ∧ tagsL (l.map Pm.pay) = []
  | [] => ⟨rfl, rfl⟩
  | p :: l => by simp [idsL, tagsL, pm_tags l, Pm.pay, ids, tags]
theorem bl_ids : ∀ l : List Bool, idsL (l.map AV.bool) = [] ∧ tagsL (l.map AV.bool) = []
  | [] => ⟨rfl, rfl⟩
  | b :: l => by simp [idsL, tagsL, bl_ids l, ids, tags]

theorem args_rd {f : Nat} {H : AM.Heap} {a : AV} {b : List UInt8} {n : Int} {ct tt cg tg : Nat} {ts : List Ty} {g : List Bool} (h : Byt H a b) (h0 : X.rw f 0 = false := by rfl) (h1 : X.rw f 1 = false := by rfl) (h2 : X.rw f 2 = false := by rfl) (h3 : X.rw f 3 = false := by rfl) :
    ∃ c p xl, PB p b ∧ (c = 0 → b = []) ∧ lendArgs X f H 0 [a, .int .i64 n, .ro ct (.pr 2 (ts.map Ty.pay)) tt, .ro cg (.pc (g.map .bool)) tg] = some ([.ro c p 1, .int .i64 n, .ro ct (.pr 2 (ts.map Ty.pay)) 3, .ro cg (.pc (g.map .bool)) 4], xl) := by
  have hx : lendArgs X f H 1 [.int .i64 n, .ro ct (.pr 2 (ts.map Ty.pay)) tt, .ro cg (.pc (g.map .bool)) tg] = some ([.int .i64 n, .ro ct (.pr 2 (ts.map Ty.pay)) 3, .ro cg (.pc (g.map .bool)) 4], [⟨[], []⟩, ⟨[], [tt]⟩, ⟨[], [tg]⟩]) :=
    args_flat h1 rfl (by simp only [lendArgs, h2, h3]; rfl)
  obtain ⟨c, p, xl, hp, hc, hx'⟩ := args_byt (C := X) (f := f) (i := 0) h0 h hx
  exact ⟨c, p, _, hp, hc, hx'⟩

theorem rdp_ev {H : AM.Heap} {a : AV} {b : List UInt8} {n : Int} {ct tt cg tg : Nat} {ts : List Ty} {g : List Bool} (h : Byt H a b) (hct : ct = 0 → ts = []) (hcg : cg = 0 → g = []) (hb : b.length ≤ 90000000) (htt : ∀ t ∈ ts, t.t < 256) :
    ∃ ob, Rw (.pr 15 ((rdPar b n ts g).1.map Pm.pay)) 0 ob ∧ evT X 9 [a, .int .i64 n, .ro ct (.pr 2 (ts.map Ty.pay)) tt, .ro cg (.pc (g.map .bool)) tg] H = some (.tup [.sl H.length 0 (rdPar b n ts g).1.length 0, .bool (rdPar b n ts g).2.1, .int .i64 (rdPar b n ts g).2.2], H ++ [some ob]) := by
  obtain ⟨c, p, xl, hp, hc, hx'⟩ := args_rd (f := 9) (n := n) (ct := ct) (tt := tt) (cg := cg) (tg := tg) (ts := ts) (g := g) h
  obtain ⟨code, hcode, hr⟩ := rd_code c b n ct ts cg g hc hct hcg hb htt
  have hid := pm_tags (rdPar b n ts g).1
  obtain ⟨ob, q1, q2⟩ := Ev1.newR (H := H) (n := (rdPar b n ts g).1.length) (es := 15) (l := (rdPar b n ts g).1.map Pm.pay) (rest := [.bool (rdPar b n ts g).2.1, .int .i64 (rdPar b n ts g).2.2]) (evT_below X) Try.func9 hcode hx' (by simp [idsL, ids, hp.ids, ty_ids ts, bl_ids g]) (by simp [gtag]) rfl rfl rfl hid.1 hid.2 (by
    obtain ⟨o, ⟨he, o1, g1, ob, q1, q2, q3, q4, q5⟩, hrun⟩ := hr
    exact ⟨o, ⟨he, o1, g1, ob, by show some [getF o.fr 8, getF o.fr 9, getF o.fr 10] = _; rw [q1, q2, q3], q4, q5⟩, by rw [par9, coB hp]; exact hrun⟩)
  exact ⟨ob, q1, evT_eq q2⟩

theorem rrp_ev {H : AM.Heap} {a : AV} {b : List UInt8} {n : Int} {ct tt cg tg : Nat} {ts : List Ty} {g : List Bool} (h : Byt H a b) (hb : b.length ≤ 90000000) (htt : ∀ t ∈ ts, t.t < 256) :
    ∃ ob, Rw (.pr 15 ((rdPar b n ts g).1.map Pm.pay)) 0 ob ∧ evT X 15 [a, .int .i64 n, .ro ct (.pr 2 (ts.map Ty.pay)) tt, .ro cg (.pc (g.map .bool)) tg] H = some (.tup [.sl H.length 0 (rdPar b n ts g).1.length 0, .bool (rdPar b n ts g).2.1, .int .i64 (rdPar b n ts g).2.2], H ++ [some ob]) := by
  obtain ⟨c, p, xl, hp, hc, hx'⟩ := args_rd (f := 15) (n := n) (ct := ct) (tt := tt) (cg := cg) (tg := tg) (ts := ts) (g := g) h
  obtain ⟨code, hcode, hr⟩ := rr_code c b n ct ts cg g hc hb htt
  rw [rr_eq] at hr
  have hid := pm_tags (rdPar b n ts g).1
  obtain ⟨ob, q1, q2⟩ := Ev1.newR (H := H) (n := (rdPar b n ts g).1.length) (es := 15) (l := (rdPar b n ts g).1.map Pm.pay) (rest := [.bool (rdPar b n ts g).2.1, .int .i64 (rdPar b n ts g).2.2]) (evT_below X) Try.func15 hcode hx' (by simp [idsL, ids, hp.ids, ty_ids ts, bl_ids g]) (by simp [gtag]) rfl rfl rfl hid.1 hid.2 (by
    obtain ⟨o, ⟨he, o1, g1, ob, q1, q2, q3, q4, q5⟩, hrun⟩ := hr
    exact ⟨o, ⟨he, o1, g1, ob, by show some [getF o.fr 8, getF o.fr 9, getF o.fr 10] = _; rw [q1, q2, q3], q4, q5⟩, by rw [par15, coB hp]; exact hrun⟩)
  exact ⟨ob, q1, evT_eq q2⟩

end Go.Proofs.Ytbmddnokokoofaa

/- Walks: Own and Kept. -/
namespace Go.Proofs.Ytbmddnokokoofaa
open Go.AM
set_option linter.unusedSimpArgs false
set_option linter.unusedVariables false

def e8 : List UInt8 := [165, 165, 165, 165, 165, 165, 165, 165]

theorem bs8 (H : AM.Heap) : buildSliceV X H 22 8 [(0, .int .u8 165), (1, .int .u8 165), (2, .int .u8 165), (3, .int .u8 165), (4, .int .u8 165), (5, .int .u8 165), (6, .int .u8 165), (7, .int .u8 165)] = some (.ro 1 (.pb e8) 0, H) := by kernel_rfl

theorem mk0 {n : Nat} (hn : n ≤ 1000000) (H : AM.Heap) : makeSliceV X H 22 (.int .i64 0) (.int .i64 (n : Nat)) = some (.sl H.length 0 0 0, H ++ [some ⟨.pb [], 0, some n, 1, true, false, 0⟩]) := by
  have hz : ∀ n, zeroRow X 5 n = some (.pb (List.replicate n 0)) := fun n => by simp [zeroRow, cellsAV, scalars, scalar, idsL, ids, tagsL, tags]
  have h0 : (0 : Int) ≤ n := by omega
  have h1 : (n : Int) ≤ 9223372036854775807 := by omega
  have h2 : (n : Int) ≤ 140737488355328 := by omega
  simp [makeSliceV, hz, h0, h1, h2, rowOf]

theorem pieceF {O : Option Code} {P : Code → Prop} (h : ∃ code, O = some code ∧ P code) (code' : Code) (h' : O = some code') : P code' := by
  obtain ⟨c, h1, h2⟩ := h
  rw [h'] at h1
  exact (Option.some.inj h1) ▸ h2

noncomputable def ownO : Option Code := ((Try.f13.body).bind cR).bind cL

set_option maxRecDepth 100000 in
theorem own_r1 {c n8 : Nat} {b E : List UInt8} {ob0 ob1 ob2 : AM.Obj} (w8 : IntKind.i64.wrap ((b.length : Int) + 8) = (n8 : Nat))
    (hM : makeSliceV X [some nilB] 22 (.int .i64 0) (.int .i64 (n8 : Nat)) = some (.sl 1 0 0 0, [some nilB, some ob0]))
    (hA1 : appendV X [some nilB, some ob0] 22 (.sl 1 0 0 0) (.ro c (.pb b) 1) = some (.sl 1 0 b.length 1, [some nilB, some ob1]))
    (hb8 : ∀ H, buildSliceV X H 22 8 [(0, .int .u8 165), (1, .int .u8 165), (2, .int .u8 165), (3, .int .u8 165), (4, .int .u8 165), (5, .int .u8 165), (6, .int .u8 165), (7, .int .u8 165)] = some (.ro 1 (.pb E) 0, H))
    (hA2 : appendV X [some nilB, some ob1] 22 (.sl 1 0 b.length 1) (.ro 1 (.pb E) 0) = some (.sl 1 0 n8 2, [some nilB, some ob2]))
    (hS2 : sliceV X [some nilB, some ob2] 22 (.sl 1 0 n8 2) none (some (.int .i64 (b.length : Nat))) = some (.sl 1 0 b.length 2)) :
    ∃ code, ownO = some code ∧ Run X (evT X) 13 0 code [(0, .ro c (.pb b) 1)] [some nilB] ⟨.normal, [(2, .sl 1 0 b.length 2)], [some nilB, some ob2]⟩ := by
  refine ⟨_, rfl, 0, ?_⟩
  simp (maxSteps := 2000000) -implicitDefEqProofs [-getElem?_pos, List.getElem?_cons_zero, List.getElem?_cons_succ, go_sem, eqV, plen, loadV, storeV, assignV, w8, hM, hA1, hA2, hb8, hS2]

section
variable (c : Nat) (b : List UInt8)

set_option maxRecDepth 100000 in
theorem own_code (hc : c = 0 → b = []) (hb : b.length ≤ 900000) : ∃ code, Try.f13.body = some code ∧
    Tells (Rets fun fr H => ∃ o g ob, getF fr 2 = .sl o 0 b.length g ∧ H[o]? = some (some ob) ∧ Rw (.pb (b ++ e8)) g ob ∧ ob.cap = some (b.length + 8)) X (evT X) 13 0 code [(0, .ro c (.pb b) 1)] [] := by
  refine ⟨_, rfl, ?_⟩
  have w8 : IntKind.i64.wrap ((b.length : Int) + 8) = ((b.length + 8 : Nat) : Int) := by rw [wrap_i64 (by omega) (by omega)]; omega
  have hM := mk0 (n := b.length + 8) (by omega) [some nilB]
  have hw0 : Rw (.pb []) 0 ⟨.pb [], 0, some (b.length + 8), 1, true, false, 0⟩ := ⟨rfl, rfl, rfl, rfl, rfl⟩
  obtain ⟨ob1, hw1, hk1, hA1⟩ := app_rwc (C := X) (T := 22) (e := 5) (by simp) (und5) (by simp) (by simp) (by simp) (H := [some nilB, some ⟨.pb [], 0, some (b.length + 8), 1, true, false, 0⟩]) (o := 1) (g := 0) (k := b.length + 8) (l := []) (m := b) (src := .ro c (.pb b) 1) rfl hw0 rfl (by simp) (srcB (.inl rfl)) (by simp; omega)
  rw [List.nil_append] at hw1
  rw [List.length_nil, Nat.zero_add] at hA1
  obtain ⟨ob2, hw2, hk2, hA2⟩ := app_rwc (C := X) (T := 22) (e := 5) (by simp) (und5) (by simp) (by simp) (by simp) (H := [some nilB, some ob1]) (o := 1) (g := 1) (k := b.length + 8) (l := b) (m := e8) (src := .ro 1 (.pb e8) 0) rfl hw1 hk1 (by simp [e8]) (.inl rfl) (by simp [e8]; omega)
  have hPl : plen (.pb (b ++ e8)) = b.length + 8 := by simp [plen, e8]
  have hS2 : sliceV X [some nilB, some ob2] 22 (.sl 1 0 (b.length + 8) 2) none (some (.int .i64 (b.length : Nat))) = some (.sl 1 0 b.length 2) := by
    have hg := hw2.g
    have hp := hw2.p
    have hle : (b.length : Int) ≤ (b.length : Int) + 8 := by omega
    simp [sliceV, bound, live, hg, hp, hPl, pesz, hle]
  apply Tells.seq (fr' := [(0, .ro c (.pb b) 1)]) (H' := [some nilB])
  · (refine ⟨0, ?_⟩; simp (maxSteps := 2000000) -implicitDefEqProofs [-getElem?_pos, List.getElem?_cons_zero, List.getElem?_cons_succ, go_sem, eqV, plen, loadV, storeV, assignV, emB])
  refine Tells.seq (pieceF (own_r1 w8 hM hA1 bs8 hA2 hS2) _ rfl) (Tells.of (o := ⟨.ret, [(2, .sl 1 0 b.length 2)], [some nilB, some ob2]⟩) ⟨0, rfl⟩ ⟨rfl, 1, 2, ob2, rfl, rfl, hw2, hk2⟩)

/-- an own copy, its rows of eight behind it -/
structure OwnB (b : List UInt8) (ob : AM.Obj) : Prop where
  rw : Rw (.pb (b ++ e8)) 0 ob
  cap : ob.cap = some (b.length + 8)

def kpFr (c t : Nat) (b : List UInt8) (i : Nat) : AM.Frame := [(5, .sl 0 b.length 8 0), (6, .int .i64 (i : Nat))]

set_option maxRecDepth 100000 in
theorem kept_code (ob : AM.Obj) (hp : ob.p = .pb (b ++ e8)) (hg : ob.g = 0) (hid : ob.ids = false) (hk : ob.cap = some (b.length + 8)) (hc : c = 0 → b = []) (hb : b.length ≤ 900000) : ∃ code, Try.f17.body = some code ∧
    Tells (Rets fun fr H => getF fr 4 = .bool true ∧ H = [some ob]) X (evT X) 17 1 code [(0, .sl 0 0 b.length 0), (1, .ro c (.pb b) 2)] [some ob] := by
  refine ⟨_, rfl, ?_⟩
  have w8 : IntKind.i64.wrap ((b.length : Int) + 8) = (b.length : Int) + 8 := by rw [wrap_i64 (by omega) (by omega)]
  have hPl : plen (.pb (b ++ e8)) = b.length + 8 := by simp [plen, e8]
  have hS := sameB_ev (H := [some ob]) (a := .sl 0 0 b.length 0) (a2 := .ro c (.pb b) 2) (Byt.part (l := b) rfl hg hp hid (by simp) (by simp)) (Byt.ro (.inl rfl) hc)
  rw [beq_self_eq_true] at hS
  have hC : capV X [some ob] 22 (.sl 0 0 b.length 0) = some ((b.length : Int) + 8) := by simp [capV, live, hg, hk]
  have hS1 : sliceV X [some ob] 22 (.sl 0 0 b.length 0) none (some (.int .i64 ((b.length : Int) + 8))) = some (.sl 0 0 (b.length + 8) 0) := by
    have h1 : (0 : Int) ≤ (b.length : Int) + 8 := by omega
    have h2 : ((b.length : Int) + 8).toNat = b.length + 8 := by omega
    simp [sliceV, bound, live, hg, hp, hPl, pesz, h1, h2]
  have hS2 : sliceV X [some ob] 22 (.sl 0 0 (b.length + 8) 0) (some (.int .i64 (b.length : Nat))) none = some (.sl 0 b.length 8 0) := by
    have hle : (b.length : Int) ≤ (b.length : Int) + 8 := by omega
    simp [sliceV, bound, live, hg, hp, hPl, pesz, hle]
  apply Tells.seq (fr' := [(0, .sl 0 0 b.length 0), (1, .ro c (.pb b) 2)]) (H' := [some ob])
  · (refine ⟨0, ?_⟩; simp (maxSteps := 2000000) -implicitDefEqProofs [-getElem?_pos, List.getElem?_cons_zero, List.getElem?_cons_succ, go_sem, eqV, plen, loadV, storeV])
  apply Tells.seq (fr' := [(0, .sl 0 0 b.length 0), (1, .ro c (.pb b) 2), (18, .bool false)]) (H' := [some ob])
  · (refine ⟨0, ?_⟩; simp (maxSteps := 2000000) -implicitDefEqProofs [-getElem?_pos, List.getElem?_cons_zero, List.getElem?_cons_succ, go_sem, eqV, plen, loadV, storeV, hS, hC, w8])
  apply Tells.seq (fr' := [(5, .sl 0 b.length 8 0)]) (H' := [some ob])
  · (refine ⟨0, ?_⟩; simp (maxSteps := 2000000) -implicitDefEqProofs [-getElem?_pos, List.getElem?_cons_zero, List.getElem?_cons_succ, go_sem, eqV, plen, loadV, storeV, hS1, hS2, w8])
  apply Tells.andThen (P := fun fr H => fr = kpFr c 2 b 8 ++ [(33, .bool false)] ∧ H = [some ob])
  · apply Tells.seq (fr' := kpFr c 2 b 0) (H' := [some ob])
    · (refine ⟨0, ?_⟩; simp (maxSteps := 2000000) -implicitDefEqProofs [-getElem?_pos, List.getElem?_cons_zero, List.getElem?_cons_succ, go_sem, eqV, plen, loadV, storeV, kpFr])
    apply Tells.block
    refine Tells.loop (σ := Nat) (fun i => i ≤ 8) (fun i => kpFr c 2 b i) (fun _ => [some ob]) (fun i => 8 - i) ?_ 0 (by omega)
    intro i hi
    by_cases hi8 : i = 8
    · right
      subst hi8
      refine ⟨⟨.exit 0, kpFr c 2 b 8 ++ [(33, .bool false)], [some ob]⟩, ⟨rfl, rfl, rfl⟩, by simp, ?_⟩
      (refine ⟨0, ?_⟩; simp (maxSteps := 2000000) -implicitDefEqProofs [-getElem?_pos, List.getElem?_cons_zero, List.getElem?_cons_succ, go_sem, eqV, plen, loadV, storeV, kpFr, hg])
    · left
      have hiI : (i : Int) < 8 := by omega
      have w1 : IntKind.i64.wrap ((i : Int) + 1) = ((i + 1 : Nat) : Int) := by rw [wrap_i64 (by omega) (by omega)]; omega
      have hv : (b ++ e8)[b.length + i]? = some 165 := by
        rw [List.getElem?_append_right (by omega), show b.length + i - b.length = i by omega]
        match i, hi, hi8 with
        | 0, _, _ | 1, _, _ | 2, _, _ | 3, _, _ | 4, _, _ | 5, _, _ | 6, _, _ | 7, _, _ => rfl
        | 8, _, h => exact absurd rfl h
        | i + 9, h, _ => omega
      refine ⟨i + 1, by omega, ?_, by omega⟩
      have hin : i < 8 := by omega
      (refine ⟨0, ?_⟩; simp (maxSteps := 2000000) -implicitDefEqProofs [-getElem?_pos, List.getElem?_cons_zero, List.getElem?_cons_succ, go_sem, eqV, plen, loadV, storeV, kpFr, hiI, hin, hg, hp, hid, hv, w1])
  · rintro fr H ⟨rfl, rfl⟩
    refine Tells.of (o := ⟨.ret, [(4, .bool true)], [some ob]⟩) ⟨0, ?_⟩ ⟨rfl, rfl, rfl⟩
    simp (maxSteps := 2000000) -implicitDefEqProofs [-getElem?_pos, List.getElem?_cons_zero, List.getElem?_cons_succ, go_sem, eqV, plen, loadV, storeV, kpFr]

end

theorem own_ev {H : AM.Heap} {a : AV} {b : List UInt8} (h : Byt H a b) (hb : b.length ≤ 900000) : ∃ ob, OwnB b ob ∧ evT X 13 [a] H = some (.sl H.length 0 b.length 0, H ++ [some ob]) := by
  obtain ⟨c, p, xl, hp, hc, hx⟩ := args_byt (C := X) (f := 13) (i := 0) rfl h (args_nil 1)
  obtain ⟨code, hcode, hr⟩ := own_code c b hc hb
  obtain ⟨ob, q1, q2, q3⟩ := Ev1.newBc (H := H) (n := b.length) (k := some (b.length + 8)) (l := b ++ e8) (rest := []) (evT_below X) Try.func13 hcode hx (by simp [idsL, ids, hp.ids]) (by simp [gtag]) rfl rfl rfl (by
    obtain ⟨o, ⟨he, o1, g, ob, q1, q2, q3, q4⟩, hrun⟩ := hr
    exact ⟨o, ⟨he, o1, g, ob, congrArg (fun v => some [v]) q1, q2, q3, q4⟩, by rw [par13, coB hp]; exact hrun⟩)
  exact ⟨ob, ⟨q1, q2⟩, evT_eq q3⟩

theorem OwnB.byt {H : AM.Heap} {o : Nat} {ob : AM.Obj} {b : List UInt8} (ho : H[o]? = some (some ob)) (h : OwnB b ob) : Byt H (.sl o 0 b.length 0) b :=
  Byt.sl ho h.rw (by simp) (by simp)

theorem kept_ev {H : AM.Heap} {o : Nat} {ob : AM.Obj} {b : List UInt8} {c t : Nat} (ho : H[o]? = some (some ob)) (h : OwnB b ob) (hc : c = 0 → b = []) (hb : b.length ≤ 900000) :
    evT X 17 [.sl o 0 b.length 0, .ro c (.pb b) t] H = some (.bool true, H) := by
  have hl : lendArgs X 17 H 1 [.ro c (.pb b) t] = some ([.ro c (.pb b) 2], [⟨[], [t]⟩]) := by simp [lendArgs, lendV, lend1]
  obtain ⟨code, hcode, ⟨⟨ex, fr, H1⟩, ⟨he, h4, hH⟩, hrun⟩⟩ := kept_code c b { ob with g := 0, tg := 3 } h.rw.p rfl h.rw.ids h.cap hc hb
  simp only at he h4 hH
  subst he hH
  exact evT_eq (Ev1.rw1 (H := H) (n := 3) (l := [.bool true]) (rest := []) (evT_below X) Try.func17 hcode rfl ho h.rw.g h.rw.ids (by rw [h.rw.p]; rfl) h.rw.tg hl rfl rfl rfl (by simp [gtag])
    (by rw [par17]; simpa [coerce, numbered] using hrun) (.inr rfl) (by show some [getF fr 4] = _; rw [h4]) rfl rfl rfl)

end Go.Proofs.Ytbmddnokokoofaa

/- Walks: lives. -/
namespace Go.Proofs.Ytbmddnokokoofaa
open Go.AM

theorem lives_ev (H : AM.Heap) : evT X 10 [] H = some (.bool true, H) :=
  evT_eq (Ev1.triedP (T := fun _ _ _ => none) Below.none (n := 400) (f := 10) (args := []) (v := .bool true) (by kernel_rfl) rfl H)

end Go.Proofs.Ytbmddnokokoofaa
