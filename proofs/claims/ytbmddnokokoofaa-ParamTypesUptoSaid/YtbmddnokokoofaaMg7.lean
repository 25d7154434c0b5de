/- T6a to VG: texts of this claim, one behind the other; what each shows stands at its head. -/
import Derived.Test.YtbmddnokokoofaaAm4
import Derived.Test.YtbmddnokokoofaaMg6
/- Walks: the same parameters. -/
namespace Go.Proofs.Ytbmddnokokoofaa
open Go.AM
set_option linter.unusedSimpArgs false
set_option linter.unusedVariables false

theorem pmEqF (a0 a3 a4 a5 a8 a9 a10 a11 a12 a13 a14 : Int) (a1 a2 a7 : Bool) (a6 : List UInt8) (xo yo : Operand) (H : AM.Heap) :
    eqV X H 34 (.agg (.pc [.int .u8 a0, .bool a1, .bool a2, .int .i64 a3, .int .i64 a4, .int .u64 a5, .str a6, .bool a7, .int .i64 a8, .int .i64 a9, .int .i64 a10, .int .i64 a11, .int .i64 a12, .int .i64 a13, .int .i64 a14])) (.agg (.pc [.int .u8 a0, .bool a1, .bool a2, .int .i64 a3, .int .i64 a4, .int .u64 a5, .str a6, .bool a7, .int .i64 a8, .int .i64 a9, .int .i64 a10, .int .i64 a11, .int .i64 a12, .int .i64 a13, .int .i64 a14])) xo yo =
      some ((a0 == a0 && (a1 == a1 && true)) && (a2 == a2 && ((a3 == a3 && (a4 == a4 && (a5 == a5 && (a6 == a6 && ((a7 == a7 && (a8 == a8 && (a9 == a9 && (a10 == a10 && (a11 == a11 && (a12 == a12 && (a13 == a13 && (a14 == a14 && true)))))))) && true))))) && true))) := by kernel_rfl
theorem eqPm (p : Pm) (xo yo : Operand) (H : AM.Heap) : eqV X H 34 (.agg p.pay) (.agg p.pay) xo yo = some true := by
  unfold Pm.pay
  rw [pmEqF]
  simp

section
variable (c c2 : Nat) (l : List Pm)

def spFr (i : Nat) : AM.Frame := [(0, .ro c (.pr 15 (l.map Pm.pay)) 1), (1, .ro c2 (.pr 15 (l.map Pm.pay)) 2), (5, .int .i64 (i : Nat))]

set_option maxRecDepth 100000 in
set_option maxHeartbeats 4000000 in
theorem sp_round (i : Nat) (p : Pm) (hl : l.length ≤ 100000000) (hp : l[i]? = some p) :
    ∃ code, ((Try.f16.body).bind (codeAt [1, 1, 0, 1, 0, 0])) = some code ∧ Run X (evT X) 16 0 code (spFr c c2 l i) [] ⟨.normal, spFr c c2 l (i + 1), []⟩ := by
  refine ⟨_, rfl, ?_⟩
  have hlt := at_lt hp
  have hiI : (i : Int) < (l.length : Int) := by omega
  have w1 : IntKind.i64.wrap ((i : Int) + 1) = ((i + 1 : Nat) : Int) := by rw [wrap_i64 (by omega) (by omega)]; omega
  have hrow : (l.map Pm.pay)[i]? = some p.pay := by rw [List.getElem?_map, hp]; rfl
  have hL : (l.map Pm.pay).length = l.length := List.length_map _
  have hE := fun xo yo => eqPm p xo yo []
  unfold spFr
  generalize l.map Pm.pay = L at *
  simp only [Pm.pay] at hrow hE
  refine ⟨0, ?_⟩
  simp (maxSteps := 2000000) -implicitDefEqProofs [-getElem?_pos, List.getElem?_cons_zero, List.getElem?_cons_succ, go_sem, eqV, plen, loadV, storeV, hlt, hiI, w1, hL, hrow, hE, mkPm, -eqV, retagL, retag, retagP, flatCells, splice, scalars, scalar]

set_option maxRecDepth 100000 in
set_option maxHeartbeats 4000000 in
theorem sp_code (hl : l.length ≤ 100000000) : ∃ code, Try.f16.body = some code ∧
    Tells (Rets fun fr H => getF fr 4 = .bool true) X (evT X) 16 0 code [(0, .ro c (.pr 15 (l.map Pm.pay)) 1), (1, .ro c2 (.pr 15 (l.map Pm.pay)) 2)] [] := by
  refine ⟨_, rfl, ?_⟩
  have hL : (l.map Pm.pay).length = l.length := List.length_map _
  apply Tells.seq (fr' := [(0, .ro c (.pr 15 (l.map Pm.pay)) 1), (1, .ro c2 (.pr 15 (l.map Pm.pay)) 2)]) (H' := [])
  · generalize l.map Pm.pay = L at *
    (refine ⟨0, ?_⟩; simp (maxSteps := 2000000) -implicitDefEqProofs [-getElem?_pos, List.getElem?_cons_zero, List.getElem?_cons_succ, go_sem, eqV, plen, loadV, storeV])
  apply Tells.assoc
  apply Tells.seq (fr' := [(0, .ro c (.pr 15 (l.map Pm.pay)) 1), (1, .ro c2 (.pr 15 (l.map Pm.pay)) 2), (10, .bool false)]) (H' := [])
  · generalize l.map Pm.pay = L at *
    (refine ⟨0, ?_⟩; simp (maxSteps := 2000000) -implicitDefEqProofs [-getElem?_pos, List.getElem?_cons_zero, List.getElem?_cons_succ, go_sem, eqV, plen, loadV, storeV])
  apply Tells.seq (fr' := [(0, .ro c (.pr 15 (l.map Pm.pay)) 1), (1, .ro c2 (.pr 15 (l.map Pm.pay)) 2), (10, .bool false)]) (H' := [])
  · exact condF (by simp [evalO, getF]) ⟨0, rfl⟩
  apply Tells.assoc
  apply Tells.seq (fr' := spFr c c2 l 0) (H' := [])
  · unfold spFr
    generalize l.map Pm.pay = L at *
    (refine ⟨0, ?_⟩; simp (maxSteps := 2000000) -implicitDefEqProofs [-getElem?_pos, List.getElem?_cons_zero, List.getElem?_cons_succ, go_sem, eqV, plen, loadV, storeV])
  apply Tells.blockThen (P := fun fr H => fr = spFr c c2 l l.length ++ [(14, .bool false)] ∧ H = [])
  · refine Tells.loopP (fun k fr H => ∃ i, k = l.length - i ∧ i ≤ l.length ∧ fr = spFr c c2 l i ∧ H = []) ?_ (k := l.length) ⟨0, rfl, by omega, rfl, rfl⟩
    rintro k fr H ⟨i, rfl, hi, rfl, rfl⟩
    by_cases hin : i = l.length
    · subst hin
      refine Tells.of (o := ⟨.exit 0, spFr c c2 l l.length ++ [(14, .bool false)], []⟩) ⟨0, ?_⟩ (.inr ⟨by simp, .inl ⟨rfl, rfl, rfl⟩⟩)
      unfold spFr
      generalize l.map Pm.pay = L at *
      simp (maxSteps := 2000000) -implicitDefEqProofs [-getElem?_pos, List.getElem?_cons_zero, List.getElem?_cons_succ, go_sem, eqV, plen, loadV, storeV, hL]
    · obtain ⟨p, hp⟩ : ∃ p, l[i]? = some p := ⟨_, List.getElem?_eq_getElem (by omega)⟩
      exact Tells.of (piece (sp_round c c2 l i p hl hp) _ rfl) (.inl ⟨rfl, l.length - (i + 1), by omega, i + 1, rfl, by omega, rfl, rfl⟩)
  rintro fr H ⟨rfl, rfl⟩
  refine Tells.of (o := ⟨.ret, [(4, .bool true)], []⟩) ⟨0, ?_⟩ ⟨rfl, rfl⟩
  unfold spFr
  generalize l.map Pm.pay = L at *
  simp (maxSteps := 2000000) -implicitDefEqProofs [-getElem?_pos, List.getElem?_cons_zero, List.getElem?_cons_succ, go_sem, eqV, plen, loadV, storeV]

end

theorem emPp : emptyRow X 34 = .pr 15 [] := by kernel_rfl
theorem undPs : und X 35 = .slice 34 := by kernel_rfl

theorem same_ev {H : AM.Heap} {a a2 : AV} {l : List Pm} (h : RoRow H a 15 (l.map Pm.pay)) (h2 : RoRow H a2 15 (l.map Pm.pay)) (hl : l.length ≤ 100000000) :
    evT X 16 [a, a2] H = some (.bool true, H) := by
  obtain ⟨c2, p2, x2, hp2, _, hx2⟩ := args_row (C := X) (f := 16) (i := 1) rfl h2 (args_nil 2)
  obtain ⟨c, p, x, hp, _, hx⟩ := args_row (C := X) (f := 16) (i := 0) rfl h hx2
  obtain ⟨code, hcode, o, ⟨he, h4⟩, hr⟩ := sp_code c c2 l hl
  have hid := (pm_tags l).1
  have hco : coerce X [.ro c p 1, .ro c2 p2 2] (paramsOf X 16) = [.ro c (.pr 15 (l.map Pm.pay)) 1, .ro c2 (.pr 15 (l.map Pm.pay)) 2] := by
    rw [par16]
    rcases hp with rfl | ⟨rfl, e⟩ <;> rcases hp2 with rfl | ⟨rfl, e2⟩
    · rfl
    · simp [coerce, undPs, emPp, e2]
    · simp [coerce, undPs, emPp, e]
    · simp [coerce, undPs, emPp, e]
  have hii : idsL [AV.ro c p 1, AV.ro c2 p2 2] = [] := by
    rcases hp with rfl | ⟨rfl, e⟩ <;> rcases hp2 with rfl | ⟨rfl, e2⟩ <;> simp [idsL, ids, hid]
  exact evT_eq (Ev1.toldP (l := [.bool true]) (evT_below X) Try.func16 hcode hx hii (by simp [gtag]) rfl rfl rfl ⟨o, ⟨he, by show some [getF o.fr 4] = _; rw [h4]⟩, by rw [hco]; exact hr⟩)

end Go.Proofs.Ytbmddnokokoofaa

/- Walks: the law ParamBack: behind the loop. -/
namespace Go.Proofs.Ytbmddnokokoofaa
open Go.AM
set_option linter.unusedSimpArgs false
set_option linter.unusedVariables false

/-- what Append tells of good parameters, behind nothing -/
def apB (l : List Pm) (bd : Bool) : List UInt8 := if l.length = 0 then [] else paB l bd
theorem apB_back {l : List Pm} {bd : Bool} {ts : List Ty} (h2 : l.length ≤ 65535) (hok : ∀ p ∈ l, p.ok) (hbad : ∀ p ∈ l, p.bad = false) (ht : TyFit l bd ts) (E : List UInt8) :
    rdPar (apB l bd ++ E) (l.length : Nat) ts (lgP l) = if E = [] then (l, bd && decide (0 < l.length), 0) else ([], false, 5) := by
  unfold apB
  by_cases h0 : l.length = 0
  · have hl := List.eq_nil_of_length_eq_zero h0
    subst hl
    unfold rdPar
    rw [if_pos h0, List.nil_append, if_neg (by simp), if_pos (show ((([] : List Pm).length : Nat) : Int) = 0 from rfl)]
    cases E with
    | nil => simp
    | cons a r => simp
  · rw [if_neg h0, rd_back (by omega) h2 hok hbad ht, decide_eq_true (by omega), Bool.and_true]
theorem apB_less {l : List Pm} {bd : Bool} {ts : List Ty} {k : Nat} (h2 : l.length ≤ 65535) (hok : ∀ p ∈ l, p.ok) (hbad : ∀ p ∈ l, p.bad = false) (ht : TyFit l bd ts) (hk : k < (apB l bd).length) :
    rdPar ((apB l bd).take k) (l.length : Nat) ts (lgP l) = ([], false, 4) := by
  unfold apB at hk ⊢
  by_cases h0 : l.length = 0
  · rw [if_pos h0] at hk; simp at hk
  · rw [if_neg h0] at hk ⊢
    exact rd_less (by omega) h2 hok hbad ht hk
theorem apB_nil {l : List Pm} {bd : Bool} : (apB l bd).length = 0 ↔ l.length = 0 := by
  unfold apB
  by_cases h0 : l.length = 0
  · rw [if_pos h0]; simp [h0]
  · rw [if_neg h0]
    have hl : 1 ≤ (paB l bd).length := by
      rw [paB_eq, List.length_append]
      unfold tailP
      cases bd <;> simp <;> omega
    omega

theorem slOwn {H : AM.Heap} {o N k : Nat} {ob : AM.Obj} {l : List UInt8} (ho : H[o]? = some (some ob)) (h : Rw (.pb l) 0 ob) (hN : N = l.length) (hk : k ≤ l.length) : sliceV X H 22 (.sl o 0 N 0) none (some (.int .i64 (k : Nat))) = some (.sl o 0 k 0) := by
  subst hN
  have hkl : (k : Int) ≤ (l.length : Int) := by omega
  simp [sliceV, bound, live, ho, h.g, h.p, pesz, plen, hkl, hk]

section
variable (d : Nat) (l : List Pm) (bd : Bool) (cut : Int) (y : UInt8)

/-- behind the types -/
def bmFr (A : AV) (N : Nat) (x : AM.Frame) : AM.Frame := [(0, .ro d (.pr 15 (l.map Pm.pay)) 1), (1, .bool bd), (2, .int .i64 cut), (3, .int .u8 (y.toNat : Nat)), (9, .sl 0 0 N 0), (12, .sl 2 0 l.length l.length), (14, A)] ++ x

set_option maxRecDepth 100000 in
set_option maxHeartbeats 8000000 in
theorem bk_tail (ts : List Ty) (A : AV) (H : AM.Heap) (ob1 oG : AM.Obj) (x : AM.Frame) (hx : x = [] ∨ x = [(63, .bool false)]) (hd : d = 0 → l = []) (hl : l.length ≤ 60) (hok : ∀ p ∈ l, p.ok) (hbad : ∀ p ∈ l, p.bad = false) (ht : TyFit l bd ts) (htt : ∀ t ∈ ts, t.t < 256) (hbl : (apB l bd).length ≤ 1000000)
    (h0 : H[0]? = some (some ob1)) (hw : Rw (.pb (apB l bd)) 0 ob1) (hA : RoRow H A 2 (ts.map Ty.pay)) (h2 : H[2]? = some (some oG)) (hG : Rw (.pc ((lgP l).map .bool)) l.length oG) (hAd : ∀ ex, RoRow (H ++ ex) A 2 (ts.map Ty.pay)) :
    ∃ code, ((Try.f6.body).bind (codeAt [1, 1, 1, 1, 1, 1, 1, 1, 1, 1])) = some code ∧ Tells (Rets fun fr H => getF fr 8 = .bool true) X (evT X) 6 0 code (bmFr d l bd cut y A (apB l bd).length x) H := by
  refine ⟨_, rfl, ?_⟩
  have hlg : ((lgP l).map AV.bool).length = l.length := by simp [lgP]
  have hGc : ∀ ex, RoCel (H ++ ex) (.sl 2 0 l.length l.length) ((lgP l).map .bool) := fun ex => by
    have := RoCel.whole (H := H ++ ex) (o := 2) (at_cat h2) hG
    rwa [hlg] at this
  have hL : (l.map Pm.pay).length = l.length := List.length_map _
  obtain ⟨ob2, hw2, hR1⟩ := rdq_ev (H := H) (a := .sl 0 0 (apB l bd).length 0) (b := apB l bd) (n := (l.length : Nat)) (ts := ts) (g := lgP l) (Byt.whole h0 hw) hA (by simpa using hGc []) (by omega) htt
  have hB := apB_back (by omega) hok hbad ht []
  rw [List.append_nil, if_pos rfl] at hB
  rw [hB] at hw2 hR1
  simp only at hw2 hR1
  have hLn : ∀ H, srcV H (.sl 0 0 0 0) = srcV H (.sl 0 0 0 0) := fun _ => rfl
  obtain ⟨P, hP⟩ : ∃ P : List AV, l.map Pm.pay = P := ⟨_, rfl⟩
  have hPl : P.length = l.length := by rw [← hP]; exact List.length_map _
  apply Tells.seq (fr' := [(0, .ro d (.pr 15 P) 1), (1, .bool bd), (2, .int .i64 cut), (3, .int .u8 (y.toNat : Nat)), (9, .sl 0 0 (apB l bd).length 0), (12, .sl 2 0 l.length l.length), (14, A), (15, .sl H.length 0 l.length 0), (16, .bool (bd && decide (0 < l.length))), (17, .int .i64 0)]) (H' := H ++ [some ob2])
  · unfold bmFr
    rw [hP]
    generalize (apB l bd).length = N at *
    generalize (bd && decide (0 < l.length)) = xx at *
    rcases hx with rfl | rfl
    · (refine ⟨0, ?_⟩; simp (maxSteps := 2000000) -implicitDefEqProofs [-getElem?_pos, List.getElem?_cons_zero, List.getElem?_cons_succ, go_sem, eqV, plen, loadV, storeV, hPl, hR1, assignV])
    · (refine ⟨0, ?_⟩; simp (maxSteps := 2000000) -implicitDefEqProofs [-getElem?_pos, List.getElem?_cons_zero, List.getElem?_cons_succ, go_sem, eqV, plen, loadV, storeV, hPl, hR1, assignV])
  have hcl : (H ++ [some ob2]).length = H.length + 1 := by simp
  have g0 : (H ++ [some ob2])[0]? = some (some ob1) := at_cat h0
  have hA1 := app_lit (H := H ++ [some ob2]) (src := .sl 0 0 (apB l bd).length 0) (.inl (srcW g0 hw rfl)) (by omega)
  have hnw : (H ++ [some ob2] ++ [some (⟨.pb (apB l bd), 0, .none, 1, true, false, 0⟩ : AM.Obj)])[(H ++ [some ob2]).length]? = some (some ⟨.pb (apB l bd), 0, .none, 1, true, false, 0⟩) := by simp
  obtain ⟨obx, hwx, hA2⟩ := app_b (H := H ++ [some ob2] ++ [some (⟨.pb (apB l bd), 0, .none, 1, true, false, 0⟩ : AM.Obj)]) (o := (H ++ [some ob2]).length) (g := 0) (l := apB l bd) (m := [y]) (src := .ro 1 (.pb [y]) 0) hnw ⟨rfl, rfl, rfl, rfl, rfl⟩ (.inl rfl) (by simp; omega)
  have hup : upd (H ++ [some ob2] ++ [some (⟨.pb (apB l bd), 0, .none, 1, true, false, 0⟩ : AM.Obj)]) (H ++ [some ob2]).length (some obx) = H ++ [some ob2] ++ [some obx] := by unfold upd; exact cat_set _ _ _
  rw [hup] at hA2
  have hnx : (H ++ [some ob2] ++ [some obx])[(H ++ [some ob2]).length]? = some (some obx) := by simp
  have hBx : Byt (H ++ [some ob2] ++ [some obx]) (.sl (H ++ [some ob2]).length 0 ((apB l bd).length + 1) 1) (apB l bd ++ [y]) := by
    have := Byt.whole hnx hwx
    rw [show (apB l bd ++ [y]).length = (apB l bd).length + 1 by simp] at this
    exact this
  obtain ⟨ob3, hw3, hR2⟩ := rdq_ev (H := H ++ [some ob2] ++ [some obx]) (b := apB l bd ++ [y]) (n := (l.length : Nat)) (ts := ts) (g := lgP l) hBx (by rw [List.append_assoc]; exact hAd _) (by rw [List.append_assoc]; exact hGc _) (by simp; omega) htt
  rw [apB_back (by omega) hok hbad ht [y], if_neg (by simp)] at hR2
  simp only at hR2
  have hby := fun H => bs1 H y
  have hb0 := fun H => bs0 H
  apply Tells.seq (fr' := [(0, .ro d (.pr 15 P) 1), (1, .bool bd), (2, .int .i64 cut), (9, .sl 0 0 (apB l bd).length 0), (12, .sl 2 0 l.length l.length), (14, A), (15, .sl H.length 0 l.length 0), (16, .bool (bd && decide (0 < l.length))), (17, .int .i64 0), (20, .int .i64 5)]) (H' := H ++ [some ob2] ++ [some obx] ++ [some ob3])
  · simp only [List.length_cons, List.length_nil, Nat.zero_add] at hA2
    generalize (apB l bd).length = N at *
    generalize (bd && decide (0 < l.length)) = xx at *
    generalize H ++ [some ob2] ++ [some (⟨.pb (apB l bd), 0, .none, 1, true, false, 0⟩ : AM.Obj)] = Ha at *
    generalize H ++ [some ob2] ++ [some obx] ++ [some ob3] = Hc at *
    generalize H ++ [some ob2] ++ [some obx] = Hb at *
    generalize H ++ [some ob2] = Hz at *
    (refine ⟨0, ?_⟩; simp (maxSteps := 2000000) -implicitDefEqProofs [-getElem?_pos, List.getElem?_cons_zero, List.getElem?_cons_succ, go_sem, eqV, plen, loadV, storeV, hPl, hb0, hby, hA1, hA2, hR2, assignV])
  have hS := same_ev (H := H ++ [some ob2] ++ [some obx] ++ [some ob3]) (a := .ro d (.pr 15 P) 1) (a2 := .sl H.length 0 l.length 0) (l := l) (by
      rw [← hP]
      refine ⟨d, _, .inl rfl, fun h => ?_, fun t => ⟨⟨[], [1]⟩, rfl⟩⟩
      rw [hd h]; rfl) (by
      have := RoRow.whole (H := H ++ [some ob2] ++ [some obx] ++ [some ob3]) (o := H.length) (at_cat (at_cat (by simp))) hw2
      rwa [List.length_map] at this) (by omega)
  have g0' : (H ++ [some ob2] ++ [some obx] ++ [some ob3])[0]? = some (some ob1) := at_cat (at_cat g0)
  have hA' : RoRow (H ++ [some ob2] ++ [some obx] ++ [some ob3]) A 2 (ts.map Ty.pay) := by rw [List.append_assoc, List.append_assoc]; exact hAd _
  have hG' : RoCel (H ++ [some ob2] ++ [some obx] ++ [some ob3]) (.sl 2 0 l.length l.length) ((lgP l).map .bool) := by rw [List.append_assoc, List.append_assoc]; exact hGc _
  generalize H ++ [some ob2] ++ [some obx] ++ [some ob3] = H3 at *
  apply Tells.assoc
  apply Tells.seq (fr' := [(0, .ro d (.pr 15 P) 1), (2, .int .i64 cut), (9, .sl 0 0 (apB l bd).length 0), (12, .sl 2 0 l.length l.length), (14, A), (110, .bool false)]) (H' := H3)
  · generalize (apB l bd).length = N at *
    cases bd with
    | false =>
      (refine ⟨0, ?_⟩; simp (maxSteps := 2000000) -implicitDefEqProofs [-getElem?_pos, List.getElem?_cons_zero, List.getElem?_cons_succ, go_sem, eqV, plen, loadV, storeV, hPl, hS])
    | true =>
      by_cases hn : 0 < l.length
      · have hnI : (0 : Int) < (l.length : Int) := by omega
        rw [decide_eq_true hn]
        (refine ⟨0, ?_⟩; simp (maxSteps := 2000000) -implicitDefEqProofs [-getElem?_pos, List.getElem?_cons_zero, List.getElem?_cons_succ, go_sem, eqV, plen, loadV, storeV, hPl, hS, hn, hnI])
      · have hnI : ¬ (0 : Int) < (l.length : Int) := by omega
        rw [decide_eq_false hn]
        (refine ⟨0, ?_⟩; simp (maxSteps := 2000000) -implicitDefEqProofs [-getElem?_pos, List.getElem?_cons_zero, List.getElem?_cons_succ, go_sem, eqV, plen, loadV, storeV, hPl, hS, hn, hnI])
  apply Tells.seq (fr' := [(0, .ro d (.pr 15 P) 1), (2, .int .i64 cut), (9, .sl 0 0 (apB l bd).length 0), (12, .sl 2 0 l.length l.length), (14, A), (110, .bool false)]) (H' := H3)
  · exact condF (by simp [evalO, getF]) ⟨0, rfl⟩
  apply Tells.assoc
  by_cases hN0 : (apB l bd).length = 0
  · have hn0 := apB_nil.1 hN0
    refine Tells.of (o := ⟨.ret, [(8, .bool true)], H3⟩) ⟨0, ?_⟩ ⟨rfl, rfl⟩
    rw [hN0]
    have g0l : live H3 0 0 = some ob1 := by simp [live, g0', hw.g]
    simp only [live] at g0l
    simp (maxSteps := 2000000) -implicitDefEqProofs [-getElem?_pos, List.getElem?_cons_zero, List.getElem?_cons_succ, go_sem, eqV, plen, loadV, storeV, hPl, hn0, g0', hw.g]
  have hNb : (((apB l bd).length : Int) == 0) = false := beq_eq_false_iff_ne.2 (by omega)
  apply Tells.seq (fr' := [(0, .ro d (.pr 15 P) 1), (2, .int .i64 cut), (9, .sl 0 0 (apB l bd).length 0), (12, .sl 2 0 l.length l.length), (14, A), (113, .bool false)]) (H' := H3)
  · generalize (apB l bd).length = N at *
    (refine ⟨0, ?_⟩; simp (maxSteps := 2000000) -implicitDefEqProofs [-getElem?_pos, List.getElem?_cons_zero, List.getElem?_cons_succ, go_sem, eqV, plen, loadV, storeV, hNb, hN0, g0', hw.g])
  apply Tells.seq (fr' := [(0, .ro d (.pr 15 P) 1), (2, .int .i64 cut), (9, .sl 0 0 (apB l bd).length 0), (12, .sl 2 0 l.length l.length), (14, A), (113, .bool false)]) (H' := H3)
  · exact condF (by simp [evalO, getF]) ⟨0, rfl⟩
  have hpk := pick_ev (H := H3) cut (apB l bd).length (by omega) (by omega)
  have hpi := pk_in (x := cut) (n := ((apB l bd).length : Nat)) (by omega)
  obtain ⟨k, hk⟩ : ∃ k : Nat, pkI cut ((apB l bd).length : Nat) = (k : Nat) := ⟨(pkI cut ((apB l bd).length : Nat)).toNat, by omega⟩
  rw [hk] at hpk hpi
  have hsl := slOwn (k := k) g0' hw rfl (by omega)
  have hBk : Byt H3 (.sl 0 0 k 0) ((apB l bd).take k) := Byt.sl g0' hw (by simp) (by omega)
  obtain ⟨ob4, hw4, hR3⟩ := rdq_ev (H := H3) (b := (apB l bd).take k) (n := (l.length : Nat)) (ts := ts) (g := lgP l) hBk hA' hG' (by rw [List.length_take]; omega) htt
  rw [apB_less (by omega) hok hbad ht (by omega)] at hR3
  simp only at hR3
  apply Tells.seq (fr' := [(23, .int .i64 4)]) (H' := H3 ++ [some ob4])
  · generalize (apB l bd).length = N at *
    (refine ⟨0, ?_⟩; simp (maxSteps := 2000000) -implicitDefEqProofs [-getElem?_pos, List.getElem?_cons_zero, List.getElem?_cons_succ, go_sem, eqV, plen, loadV, storeV, hPl, g0', hw.g, hpk, hsl, hR3, assignV])
  refine Tells.of (o := ⟨.ret, [(8, .bool true)], H3 ++ [some ob4]⟩) ⟨0, ?_⟩ ⟨rfl, rfl⟩
  simp (maxSteps := 2000000) -implicitDefEqProofs [-getElem?_pos, List.getElem?_cons_zero, List.getElem?_cons_succ, go_sem, eqV, plen, loadV, storeV]

end

end Go.Proofs.Ytbmddnokokoofaa

/- Plain: how long what is written may be. -/
namespace Go.Proofs.Ytbmddnokokoofaa
open Go.AM
set_option linter.unusedSimpArgs false
set_option linter.unusedVariables false

theorem sizeN_le (t : Nat) : sizeN t ≤ 8 := by
  unfold sizeN
  repeat' split
  all_goals omega

theorem whB_le (w : Wh) (t : Nat) : (whB w t).length ≤ 13 := by
  have h1 : (clB w).length = 3 := rfl
  have h2 : (usB w).length ≤ 4 := by unfold usB; split <;> simp [leB_len]
  unfold whB spB moB
  repeat' split
  all_goals simp [leB_len]
  all_goals omega

theorem aT_le (s : List UInt8) : (aT s).length ≤ s.length + 9 := by
  unfold aT
  rw [List.length_append, aI_len]
  unfold szI
  repeat' split
  all_goals omega

theorem enV_le (v : Va) (t : Ty) : (enV v t).length ≤ v.t.length + 13 := by
  have h1 := sizeN_le t.t
  have h2 := whB_le v.w t.t
  have h3 := aT_le v.t
  unfold enV
  repeat' split
  all_goals (try rw [leB_len])
  all_goals (try simp only [List.length_nil])
  all_goals omega

theorem restB_sum : ∀ l : List Pm, (restB l).length ≤ sumT l + 13 * l.length
  | [] => by simp [restB, sumT]
  | p :: l => by
    have h := restB_sum l
    have h2 := enV_le p.v p.t
    have h3 : (paE p).length ≤ p.v.t.length + 13 := by unfold paE; split <;> first | omega | (simp only [List.length_nil]; omega)
    have e1 : (restB (p :: l)).length = (paE p).length + (restB l).length := by simp [restB]
    have e2 : sumT (p :: l) = p.v.t.length + sumT l := by simp [sumT]
    rw [e1, e2, List.length_cons]; omega

theorem sm_rest {l : List Pm} (h : smL l = true) : l.length ≤ 60 ∧ sumT l ≤ 3000 ∧ (restB l).length ≤ 4000 := by
  unfold smL at h
  simp only [Bool.and_eq_true, decide_eq_true_eq] at h
  obtain ⟨h1, h2⟩ := h
  rw [List.take_of_length_le (by omega)] at h2
  have := restB_sum l
  exact ⟨h1, h2, by omega⟩

end Go.Proofs.Ytbmddnokokoofaa

/- Walks: the law ParamTypes. -/
namespace Go.Proofs.Ytbmddnokokoofaa
open Go.AM
set_option linter.unusedSimpArgs false
set_option linter.unusedVariables false

section
variable (d : Nat) (l : List Pm) (ck : Nat) (ks : List Ty)

def ptFr (i : Nat) : AM.Frame := [(0, .ro d (.pr 15 (l.map Pm.pay)) 1), (1, .ro ck (.pr 2 (ks.map Ty.pay)) 2), (5, .sl 0 0 i i), (6, .int .i64 (i : Nat))]

set_option maxRecDepth 100000 in
set_option maxHeartbeats 4000000 in
theorem pt_round (i : Nat) (oG : AM.Obj) (p : Pm) (hl : l.length ≤ 1000) (hp : l[i]? = some p) (hG : Rw (.pc ((lgP (l.take i)).map .bool)) i oG) :
    ∃ oG', Rw (.pc ((lgP (l.take (i + 1))).map .bool)) (i + 1) oG' ∧ ∃ code, ((Try.f7.body).bind (codeAt [1, 1, 1, 1, 0, 1, 0, 0])) = some code ∧ Run X (evT X) 7 0 code (ptFr d l ck ks i) [some oG] ⟨.normal, ptFr d l ck ks (i + 1), [some oG']⟩ := by
  have hlt := at_lt hp
  have hiI : (i : Int) < (l.length : Int) := by omega
  have w1 : IntKind.i64.wrap ((i : Int) + 1) = ((i + 1 : Nat) : Int) := by rw [wrap_i64 (by omega) (by omega)]; omega
  have hrow : (l.map Pm.pay)[i]? = some p.pay := by rw [List.getElem?_map, hp]; rfl
  have hL : (l.map Pm.pay).length = l.length := List.length_map _
  have htk : l.take (i + 1) = l.take i ++ [p] := by rw [List.take_add_one, hp]; rfl
  have hlG : ((lgP (l.take i)).map AV.bool).length = i := by simp [lgP]; omega
  obtain ⟨oG', hG', hA2⟩ := app_cells (C := X) (T := 44) (e := 4) (H := [some oG]) (o := 0) (m := [.bool p.lg]) (src := .ro 1 (.pc [.bool p.lg]) 0) (by simp) (by simp) (by simp) (by simp) rfl hG rfl (by rw [hlG]; simp; omega)
  rw [hlG] at hA2
  have hG2 : Rw (.pc ((lgP (l.take (i + 1))).map .bool)) (i + 1) oG' := by rw [htk]; unfold lgP at hG' ⊢; rw [List.map_append, List.map_append]; exact hG'
  refine ⟨oG', hG2, _, rfl, 0, ?_⟩
  have hbg := fun H x => bsBl H x
  unfold ptFr
  generalize l.map Pm.pay = L at *
  generalize ks.map Ty.pay = K at *
  simp only [Pm.pay] at hrow
  simp only [List.length_cons, List.length_nil, Nat.zero_add, upd, List.set_cons_succ, List.set_cons_zero] at hA2
  simp (maxSteps := 2000000) -implicitDefEqProofs [-getElem?_pos, List.getElem?_cons_zero, List.getElem?_cons_succ, go_sem, eqV, plen, loadV, storeV, hiI, hlt, hL, hrow, w1, hbg, hA2, mkTy, mkPm, assignV, retagL, retag, retagP, flatCells, splice, scalars, scalar]

set_option maxRecDepth 100000 in
set_option maxHeartbeats 4000000 in
theorem pt_loop (hl : l.length ≤ 1000) : ∃ code, ((Try.f7.body).bind (codeAt [1, 1, 1, 1, 0, 1])) = some code ∧ Tells (Goes fun fr H' => fr = ptFr d l ck ks l.length ++ [(35, .bool false)] ∧ ∃ oG, H' = [some oG] ∧ Rw (.pc ((lgP l).map .bool)) l.length oG) X (evT X) 7 0 code (ptFr d l ck ks 0) [some nilG] := by
  refine ⟨_, rfl, ?_⟩
  have hL : (l.map Pm.pay).length = l.length := List.length_map _
  apply Tells.block
  refine Tells.loopP (fun k fr H => ∃ i oG, k = l.length - i ∧ i ≤ l.length ∧ fr = ptFr d l ck ks i ∧ H = [some oG] ∧ Rw (.pc ((lgP (l.take i)).map .bool)) i oG) ?_ (k := l.length) ⟨0, nilG, rfl, by omega, rfl, rfl, nilG_rw⟩
  rintro k fr H ⟨i, oG, rfl, hi, rfl, rfl, hG⟩
  by_cases hin : i = l.length
  · subst hin
    rw [List.take_length] at hG
    refine Tells.of (o := ⟨.exit 0, ptFr d l ck ks l.length ++ [(35, .bool false)], [some oG]⟩) ⟨0, ?_⟩ (.inr ⟨by simp, rfl, rfl, oG, rfl, hG⟩)
    unfold ptFr
    generalize l.map Pm.pay = L at *
    generalize ks.map Ty.pay = K at *
    simp (maxSteps := 2000000) -implicitDefEqProofs [-getElem?_pos, List.getElem?_cons_zero, List.getElem?_cons_succ, go_sem, eqV, plen, loadV, storeV, hL]
  obtain ⟨p, hp⟩ : ∃ p, l[i]? = some p := ⟨_, List.getElem?_eq_getElem (by omega)⟩
  obtain ⟨oG', hG', hr⟩ := pt_round d l ck ks i oG p hl hp hG
  exact Tells.of (piece hr _ rfl) (.inl ⟨rfl, l.length - (i + 1), by omega, i + 1, oG', rfl, by omega, rfl, rfl, hG'⟩)

set_option maxRecDepth 100000 in
set_option maxHeartbeats 8000000 in
theorem types_code (hd : d = 0 → l = []) (hck : ck = 0 → ks = []) (hkt : ∀ t ∈ ks, t.t < 256) (hok : ∀ p ∈ l, p.ok) (hl : ∀ p ∈ l, p.v.t.length ≤ 1048576) : ∃ code, Try.f7.body = some code ∧
    Tells (Rets fun fr H => getF fr 4 = .bool true) X (evT X) 7 0 code [(0, .ro d (pmL l) 1), (1, .ro ck (.pr 2 (ks.map Ty.pay)) 2)] [] := by
  refine ⟨_, rfl, ?_⟩
  have hLv := fun H => lives_ev H
  have hS := fun H => small_ev (H := H) (d := d) (t := 1) hl
  unfold pmL at *
  obtain ⟨P, hP⟩ : ∃ P : List AV, l.map Pm.pay = P := ⟨_, rfl⟩
  have hPl : P.length = l.length := by rw [← hP]; exact List.length_map _
  obtain ⟨K, hK⟩ : ∃ K : List AV, ks.map Ty.pay = K := ⟨_, rfl⟩
  have hKl : K.length = ks.length := by rw [← hK]; exact List.length_map _
  rw [hP] at hS ⊢
  rw [hK]
  apply Tells.seq (fr' := [(0, .ro d (.pr 15 P) 1), (1, .ro ck (.pr 2 K) 2)]) (H' := [])
  · (refine ⟨0, ?_⟩; simp (maxSteps := 2000000) -implicitDefEqProofs [-getElem?_pos, List.getElem?_cons_zero, List.getElem?_cons_succ, go_sem, eqV, plen, loadV, storeV])
  apply Tells.assoc
  apply Tells.seq (fr' := [(0, .ro d (.pr 15 P) 1), (1, .ro ck (.pr 2 K) 2), (18, .bool false)]) (H' := [])
  · (refine ⟨0, ?_⟩; simp (maxSteps := 2000000) -implicitDefEqProofs [-getElem?_pos, List.getElem?_cons_zero, List.getElem?_cons_succ, go_sem, eqV, plen, loadV, storeV, hLv, unV])
  apply Tells.seq (fr' := [(0, .ro d (.pr 15 P) 1), (1, .ro ck (.pr 2 K) 2), (18, .bool false)]) (H' := [])
  · exact condF (by simp [evalO, getF]) ⟨0, rfl⟩
  apply Tells.assoc
  cases hs : smL l with
  | false =>
    rw [hs] at hS
    refine Tells.of (o := ⟨.ret, [(4, .bool true)], []⟩) ⟨0, ?_⟩ ⟨rfl, rfl⟩
    simp (maxSteps := 2000000) -implicitDefEqProofs [-getElem?_pos, List.getElem?_cons_zero, List.getElem?_cons_succ, go_sem, eqV, plen, loadV, storeV, hS, unV]
  | true =>
  rw [hs] at hS
  obtain ⟨s1, s2, s3⟩ := sm_rest hs
  by_cases hk60 : (60 : Int) < (ks.length : Int)
  · refine Tells.of (o := ⟨.ret, [(4, .bool true)], []⟩) ⟨0, ?_⟩ ⟨rfl, rfl⟩
    simp (maxSteps := 2000000) -implicitDefEqProofs [-getElem?_pos, List.getElem?_cons_zero, List.getElem?_cons_succ, go_sem, eqV, plen, loadV, storeV, hS, unV, hKl, hk60]
  by_cases hn0 : l.length = 0
  · refine Tells.of (o := ⟨.ret, [(4, .bool true)], []⟩) ⟨0, ?_⟩ ⟨rfl, rfl⟩
    simp (maxSteps := 2000000) -implicitDefEqProofs [-getElem?_pos, List.getElem?_cons_zero, List.getElem?_cons_succ, go_sem, eqV, plen, loadV, storeV, hS, unV, hKl, hk60, hPl, hn0]
  have hnb : ((l.length : Int) == 0) = false := beq_eq_false_iff_ne.2 (by omega)
  apply Tells.seq (fr' := [(0, .ro d (.pr 15 P) 1), (1, .ro ck (.pr 2 K) 2), (31, .bool false)]) (H' := [])
  · (refine ⟨0, ?_⟩; simp (maxSteps := 2000000) -implicitDefEqProofs [-getElem?_pos, List.getElem?_cons_zero, List.getElem?_cons_succ, go_sem, eqV, plen, loadV, storeV, hS, unV, hKl, hk60, hPl, hnb])
  apply Tells.seq (fr' := [(0, .ro d (.pr 15 P) 1), (1, .ro ck (.pr 2 K) 2), (31, .bool false)]) (H' := [])
  · exact condF (by simp [evalO, getF]) ⟨0, rfl⟩
  apply Tells.seq (fr' := [(0, .ro d (.pr 15 P) 1), (1, .ro ck (.pr 2 K) 2), (5, .sl 0 0 0 0)]) (H' := [some nilG])
  · (refine ⟨0, ?_⟩; simp (maxSteps := 2000000) -implicitDefEqProofs [-getElem?_pos, List.getElem?_cons_zero, List.getElem?_cons_succ, go_sem, eqV, plen, loadV, storeV, assignV, emG])
  apply Tells.assoc
  apply Tells.seq (fr' := ptFr d l ck ks 0) (H' := [some nilG])
  · unfold ptFr
    rw [hP, hK]
    (refine ⟨0, ?_⟩; simp (maxSteps := 2000000) -implicitDefEqProofs [-getElem?_pos, List.getElem?_cons_zero, List.getElem?_cons_succ, go_sem, eqV, plen, loadV, storeV])
  apply Tells.andThen (piece (pt_loop d l ck ks (by omega)) _ rfl)
  rintro fr H ⟨rfl, oG, rfl, hG⟩
  obtain ⟨ob1, hw1, hA1⟩ := pappend_ev (H := [some oG]) (a := .ro 0 .pn 0) (b := []) (d := d) (t := 1) (l := l) (bd := true) Byt.nil (by simp) hok (by omega)
  obtain ⟨ob2, hw2, hA2⟩ := pappend_ev (H := [some oG, some ob1]) (a := .ro 0 .pn 0) (b := []) (d := d) (t := 1) (l := l) (bd := false) Byt.nil (by simp) hok (by omega)
  unfold pmL at hA1 hA2
  rw [hP] at hA1 hA2
  simp only [List.cons_append, List.nil_append, List.length_cons, List.length_nil, Nat.zero_add] at hA1 hA2
  apply Tells.seq (fr' := [(0, .ro d (.pr 15 P) 1), (1, .ro ck (.pr 2 K) 2), (5, .sl 0 0 l.length l.length), (7, .sl 1 0 (pApp [] l true).1.length 0), (8, .int .i64 (pApp [] l true).2)]) (H' := [some oG, some ob1])
  · unfold ptFr
    rw [hP, hK]
    generalize pApp [] l true = r at *
    (refine ⟨0, ?_⟩; simp (maxSteps := 2000000) -implicitDefEqProofs [-getElem?_pos, List.getElem?_cons_zero, List.getElem?_cons_succ, go_sem, eqV, plen, loadV, storeV, hA1, assignV])
  apply Tells.seq (fr' := [(0, .ro d (.pr 15 P) 1), (1, .ro ck (.pr 2 K) 2), (5, .sl 0 0 l.length l.length), (7, .sl 1 0 (pApp [] l true).1.length 0), (8, .int .i64 (pApp [] l true).2), (9, .sl 2 0 (pApp [] l false).1.length 0), (10, .int .i64 (pApp [] l false).2)]) (H' := [some oG, some ob1, some ob2])
  · generalize pApp [] l true = r at *
    generalize pApp [] l false = r2 at *
    (refine ⟨0, ?_⟩; simp (maxSteps := 2000000) -implicitDefEqProofs [-getElem?_pos, List.getElem?_cons_zero, List.getElem?_cons_succ, go_sem, eqV, plen, loadV, storeV, hA2, assignV])
  clear hA1 hA2
  by_cases hbad : l.any Pm.bad = true
  · have hp : ∀ bd, pApp [] l bd = ([], 2) := fun bd => by unfold pApp; rw [if_neg (by omega), if_pos hbad]
    rw [hp, hp]
    refine Tells.of (o := ⟨.ret, [(4, .bool true)], [some oG, some ob1, some ob2]⟩) ⟨0, ?_⟩ ⟨rfl, rfl⟩
    simp (maxSteps := 2000000) -implicitDefEqProofs [-getElem?_pos, List.getElem?_cons_zero, List.getElem?_cons_succ, go_sem, eqV, plen, loadV, storeV]
  have hbad' : ∀ p ∈ l, p.bad = false := by
    intro p hp
    cases h : p.bad with
    | false => rfl
    | true => exact absurd (List.any_eq_true.2 ⟨p, hp, h⟩) hbad
  have hp : ∀ bd, pApp [] l bd = (paB l bd, 0) := fun bd => by
    unfold pApp
    rw [if_neg (by omega), if_neg hbad, if_neg hn0, List.nil_append]
  rw [hp, hp]
  rw [hp] at hw1 hw2
  simp only at hw1 hw2
  have hal : ∀ bd, (paB l bd).length ≤ 1000000 := fun bd => by
    unfold paB
    have h1 := tysB_len l
    have h2 := bitsP_len l
    unfold bitsP at h2
    rw [List.length_append, List.length_append, h2]
    cases bd <;> simp <;> omega
  have ha1 := hal true
  have ha2 := hal false
  have hlg : ((lgP l).map AV.bool).length = l.length := by simp [lgP]
  have hGc : ∀ ex, RoCel ([some oG] ++ ex) (.sl 0 0 l.length l.length) ((lgP l).map .bool) := fun ex => by
    have := RoCel.whole (H := [some oG] ++ ex) (o := 0) rfl hG
    rwa [hlg] at this
  have hKr : ∀ (H : AM.Heap), RoRow H (.ro ck (.pr 2 K) 2) 2 (ks.map Ty.pay) := fun H => by
    rw [← hK]
    exact RoRow.ro (fun h => by rw [hck h]; rfl)
  obtain ⟨ob3, hw3, hR1⟩ := rdq_ev (H := [some oG, some ob1, some ob2]) (a := .sl 1 0 (paB l true).length 0) (b := paB l true) (n := (l.length : Nat)) (ts := ks) (g := lgP l) (Byt.whole rfl hw1) (hKr _) (hGc [some ob1, some ob2]) (by omega) hkt
  have hB := rd_back (bd := true) (ts := ks) (by omega) (by omega) hok hbad' (fun h => by cases h) []
  rw [List.append_nil, if_pos rfl] at hB
  rw [hB] at hw3 hR1
  simp only [List.cons_append, List.nil_append, List.length_cons, List.length_nil, Nat.zero_add] at hw3 hR1
  have hmn : min ks.length (l.length - 1) ≤ K.length := by rw [hKl]; omega
  have hck2 : (if ck = 0 then 0 else 2) = 0 → ks.take (min ks.length (l.length - 1)) = [] := fun h => by
    by_cases hc0 : ck = 0
    · rw [hck hc0]; simp
    · rw [if_neg hc0] at h; cases h
  have hsl := fun H => slTy (ct := ck) (t := 2) (n := min ks.length (l.length - 1)) (l := K) hmn H
  have hKr2 : ∀ (H : AM.Heap), RoRow H (.ro (if ck = 0 then 0 else 2) (.pr 2 (K.take (min ks.length (l.length - 1)))) 2) 2 ((ks.take (min ks.length (l.length - 1))).map Ty.pay) := fun H => by
    rw [← hK, ← List.map_take]
    exact RoRow.ro (fun h => by rw [hck2 h]; rfl)
  obtain ⟨ob4, hw4, hR2⟩ := rdq_ev (H := [some oG, some ob1, some ob2, some ob3]) (a := .sl 2 0 (paB l false).length 0) (b := paB l false) (n := (l.length : Nat)) (ts := ks.take (min ks.length (l.length - 1))) (g := lgP l) (Byt.whole rfl hw2) (hKr2 _) (hGc [some ob1, some ob2, some ob3]) (by omega) (fun t h => hkt t (List.mem_of_mem_take h))
  rw [rd_few (by omega) (by omega) (by rw [List.length_take]; omega)] at hR2
  simp only [List.cons_append, List.nil_append, List.length_cons, List.length_nil, Nat.zero_add] at hR2
  apply Tells.assoc
  apply Tells.seq (fr' := [(0, .ro d (.pr 15 P) 1), (1, .ro ck (.pr 2 K) 2), (5, .sl 0 0 l.length l.length), (7, .sl 1 0 (paB l true).length 0), (8, .int .i64 0), (9, .sl 2 0 (paB l false).length 0), (58, .bool false)]) (H' := [some oG, some ob1, some ob2])
  · generalize (paB l true).length = N1 at *
    generalize (paB l false).length = N2 at *
    (refine ⟨0, ?_⟩; simp (maxSteps := 2000000) -implicitDefEqProofs [-getElem?_pos, List.getElem?_cons_zero, List.getElem?_cons_succ, go_sem, eqV, plen, loadV, storeV])
  apply Tells.seq (fr' := [(0, .ro d (.pr 15 P) 1), (1, .ro ck (.pr 2 K) 2), (5, .sl 0 0 l.length l.length), (7, .sl 1 0 (paB l true).length 0), (8, .int .i64 0), (9, .sl 2 0 (paB l false).length 0), (58, .bool false)]) (H' := [some oG, some ob1, some ob2])
  · exact condF (by simp [evalO, getF]) ⟨0, rfl⟩
  apply Tells.assoc
  apply Tells.seq (fr' := [(0, .ro d (.pr 15 P) 1), (1, .ro ck (.pr 2 K) 2), (5, .sl 0 0 l.length l.length), (7, .sl 1 0 (paB l true).length 0), (9, .sl 2 0 (paB l false).length 0), (60, .bool false)]) (H' := [some oG, some ob1, some ob2])
  · generalize (paB l true).length = N1 at *
    generalize (paB l false).length = N2 at *
    (refine ⟨0, ?_⟩; simp (maxSteps := 2000000) -implicitDefEqProofs [-getElem?_pos, List.getElem?_cons_zero, List.getElem?_cons_succ, go_sem, eqV, plen, loadV, storeV])
  apply Tells.seq (fr' := [(0, .ro d (.pr 15 P) 1), (1, .ro ck (.pr 2 K) 2), (5, .sl 0 0 l.length l.length), (7, .sl 1 0 (paB l true).length 0), (9, .sl 2 0 (paB l false).length 0), (60, .bool false)]) (H' := [some oG, some ob1, some ob2])
  · exact condF (by simp [evalO, getF]) ⟨0, rfl⟩
  apply Tells.seq (fr' := [(0, .ro d (.pr 15 P) 1), (1, .ro ck (.pr 2 K) 2), (5, .sl 0 0 l.length l.length), (9, .sl 2 0 (paB l false).length 0), (11, .sl 3 0 l.length 0), (13, .int .i64 0)]) (H' := [some oG, some ob1, some ob2, some ob3])
  · generalize (paB l true).length = N1 at *
    generalize (paB l false).length = N2 at *
    (refine ⟨0, ?_⟩; simp (maxSteps := 2000000) -implicitDefEqProofs [-getElem?_pos, List.getElem?_cons_zero, List.getElem?_cons_succ, go_sem, eqV, plen, loadV, storeV, hPl, hR1, assignV])
  have wn : IntKind.i64.wrap ((l.length : Int) - 1) = ((l.length - 1 : Nat) : Int) := by rw [wrap_i64 (by omega) (by omega)]; omega
  have hmi : minmax false (.int .i64 (ks.length : Nat)) [.int .i64 ((l.length - 1 : Nat) : Int)] = some (.int .i64 ((min ks.length (l.length - 1) : Nat) : Int)) := by
    simp only [minmax, if_true]
    congr 2
    rw [if_neg (by simp)]
    split <;> omega
  apply Tells.seq (fr' := [(0, .ro d (.pr 15 P) 1), (11, .sl 3 0 l.length 0), (13, .int .i64 0), (16, .int .i64 5)]) (H' := [some oG, some ob1, some ob2, some ob3, some ob4])
  · generalize (paB l false).length = N2 at *
    generalize K.take (min ks.length (l.length - 1)) = Kt at *
    generalize min ks.length (l.length - 1) = mn at *
    generalize l.length - 1 = n1 at *
    (refine ⟨0, ?_⟩; simp (maxSteps := 2000000) -implicitDefEqProofs [-getElem?_pos, List.getElem?_cons_zero, List.getElem?_cons_succ, go_sem, eqV, plen, loadV, storeV, hPl, hKl, wn, hmi, hsl, hR2, assignV])
  have hSP := same_ev (H := [some oG, some ob1, some ob2, some ob3, some ob4]) (a := .ro d (.pr 15 P) 1) (a2 := .sl 3 0 l.length 0) (l := l) (by
      rw [← hP]
      exact RoRow.ro (fun h => by rw [hd h]; rfl)) (by
      have := RoRow.whole (H := [some oG, some ob1, some ob2, some ob3, some ob4]) (o := 3) rfl hw3
      rwa [List.length_map] at this) (by omega)
  refine Tells.of (o := ⟨.ret, [(4, .bool true)], [some oG, some ob1, some ob2, some ob3, some ob4]⟩) ⟨0, ?_⟩ ⟨rfl, rfl⟩
  simp (maxSteps := 2000000) -implicitDefEqProofs [-getElem?_pos, List.getElem?_cons_zero, List.getElem?_cons_succ, go_sem, eqV, plen, loadV, storeV, hSP]

end

end Go.Proofs.Ytbmddnokokoofaa

/- Arguments of laws: values, types, parameters; rows of them. -/
namespace Go.Proofs.Ytbmddnokokoofaa
open Go.AM
set_option linter.unusedVariables false

/-- a value as it may come -/
def Va.okA (v : Va) : Prop := v.b < 18446744073709551616 ∧ -9223372036854775808 ≤ v.i ∧ v.i < 9223372036854775808

theorem row_pm {r : List AV} {cs : List Value} (h : Cells [.i .u8, .b, .b, .i .i64, .i .i64, .i .u64, .s, .b, .i .i64, .i .i64, .i .i64, .i .i64, .i .i64, .i .i64, .i .i64] r cs) : ∃ p : Pm, AV.pc r = p.pay ∧ p.ok ∧ AV.str p.v.t ∈ r := by
  rcases h with _ | ⟨h0, h⟩
  rcases h with _ | ⟨h1, h⟩
  rcases h with _ | ⟨h2, h⟩
  rcases h with _ | ⟨h3, h⟩
  rcases h with _ | ⟨h4, h⟩
  rcases h with _ | ⟨h5, h⟩
  rcases h with _ | ⟨h6, h⟩
  rcases h with _ | ⟨h7, h⟩
  rcases h with _ | ⟨h8, h⟩
  rcases h with _ | ⟨h9, h⟩
  rcases h with _ | ⟨h10, h⟩
  rcases h with _ | ⟨h11, h⟩
  rcases h with _ | ⟨h12, h⟩
  rcases h with _ | ⟨h13, h⟩
  rcases h with _ | ⟨h14, h⟩
  cases h
  obtain ⟨x0, rfl, _, w0⟩ := h0
  obtain ⟨x0, rfl, b0⟩ := AM.nat_wf rfl w0
  obtain ⟨x1, rfl, _⟩ := h1
  obtain ⟨x2, rfl, _⟩ := h2
  obtain ⟨x3, rfl, _, w3⟩ := h3
  have w3 := AM.i64_wf w3
  obtain ⟨x4, rfl, _, w4⟩ := h4
  have w4 := AM.i64_wf w4
  obtain ⟨x5, rfl, _, w5⟩ := h5
  obtain ⟨x5, rfl, b5⟩ := AM.nat_wf rfl w5
  obtain ⟨x6, rfl, _, _⟩ := h6
  obtain ⟨x7, rfl, _⟩ := h7
  obtain ⟨x8, rfl, _, w8⟩ := h8
  have w8 := AM.i64_wf w8
  obtain ⟨x9, rfl, _, w9⟩ := h9
  have w9 := AM.i64_wf w9
  obtain ⟨x10, rfl, _, w10⟩ := h10
  have w10 := AM.i64_wf w10
  obtain ⟨x11, rfl, _, w11⟩ := h11
  have w11 := AM.i64_wf w11
  obtain ⟨x12, rfl, _, w12⟩ := h12
  have w12 := AM.i64_wf w12
  obtain ⟨x13, rfl, _, w13⟩ := h13
  have w13 := AM.i64_wf w13
  obtain ⟨x14, rfl, _, w14⟩ := h14
  have w14 := AM.i64_wf w14
  exact ⟨⟨⟨x0, x1⟩, x2, ⟨x3, x4, x5, x6, ⟨x7, x8, x9, x10, x11, x12, x13, x14⟩⟩⟩, rfl, ⟨b0, b5, w4.1, Int.lt_of_le_of_lt w4.2 (by decide)⟩, by simp⟩

theorem lv_pm : leaves Try.prog 6 34 = some [.i .u8, .b, .b, .i .i64, .i .i64, .i .u64, .s, .b, .i .i64, .i .i64, .i .i64, .i .i64, .i .i64, .i .i64, .i .i64] := by kernel_rfl

/-- a row of them -/
theorem arg_pms {H : Type} {enc : TypeId × Value → H} {W : World} {base : Nat} {v : Value} {d : DataW H} {ps : List MemPlace} (hval : Value.okWide Try.prog W .any base 35 v) (hd : DataW.Trod enc Try.prog W 0 (fun _ => true) true 35 v d ps) :
    ∃ (c : Nat) (l : List Pm), (∀ p ∈ l, p.ok ∧ AM.StrIn d p.v.t) ∧ (c = 0 → l = []) ∧ l.length ≤ maxLen ∧ AM.VRel (AM.start W) (AM.T0 W.heap.size) (.ro c (.pr 15 (l.map Pm.pay)) 1) v := by
  obtain ⟨c, rows, h1, h2, h3, h4⟩ := AM.arg_rows (show Try.prog.underlying 35 = some (.slice 34) by kernel_rfl) lv_pm (by kernel_rfl) (by simp) hval hd
  obtain ⟨l, q1, q2, q3⟩ := AM.rows_as AV.pc Pm.pay (Q := fun p => p.ok ∧ AM.StrIn d p.v.t) (rows := rows) (fun r hr => by
    obtain ⟨⟨cs, h⟩, hs⟩ := h1 r hr
    obtain ⟨p, e, h5⟩ := row_pm h
    exact ⟨p, e, h5.1, hs _ h5.2⟩)
  refine ⟨c, l, q3, fun h => ?_, by rw [q2]; exact h3, ?_⟩
  · have := h2 h
    subst this
    exact List.eq_nil_of_length_eq_zero q2
  · rw [← q1]
    exact h4

theorem row_va {r : List AV} {cs : List Value} (h : Cells [.i .i64, .i .i64, .i .u64, .s, .b, .i .i64, .i .i64, .i .i64, .i .i64, .i .i64, .i .i64, .i .i64] r cs) : ∃ p : Va, AV.pc r = p.pay ∧ p.okA ∧ AV.str p.t ∈ r := by
  rcases h with _ | ⟨h0, h⟩
  rcases h with _ | ⟨h1, h⟩
  rcases h with _ | ⟨h2, h⟩
  rcases h with _ | ⟨h3, h⟩
  rcases h with _ | ⟨h4, h⟩
  rcases h with _ | ⟨h5, h⟩
  rcases h with _ | ⟨h6, h⟩
  rcases h with _ | ⟨h7, h⟩
  rcases h with _ | ⟨h8, h⟩
  rcases h with _ | ⟨h9, h⟩
  rcases h with _ | ⟨h10, h⟩
  rcases h with _ | ⟨h11, h⟩
  cases h
  obtain ⟨x0, rfl, _, w0⟩ := h0
  have w0 := AM.i64_wf w0
  obtain ⟨x1, rfl, _, w1⟩ := h1
  have w1 := AM.i64_wf w1
  obtain ⟨x2, rfl, _, w2⟩ := h2
  obtain ⟨x2, rfl, b2⟩ := AM.nat_wf rfl w2
  obtain ⟨x3, rfl, _, _⟩ := h3
  obtain ⟨x4, rfl, _⟩ := h4
  obtain ⟨x5, rfl, _, w5⟩ := h5
  have w5 := AM.i64_wf w5
  obtain ⟨x6, rfl, _, w6⟩ := h6
  have w6 := AM.i64_wf w6
  obtain ⟨x7, rfl, _, w7⟩ := h7
  have w7 := AM.i64_wf w7
  obtain ⟨x8, rfl, _, w8⟩ := h8
  have w8 := AM.i64_wf w8
  obtain ⟨x9, rfl, _, w9⟩ := h9
  have w9 := AM.i64_wf w9
  obtain ⟨x10, rfl, _, w10⟩ := h10
  have w10 := AM.i64_wf w10
  obtain ⟨x11, rfl, _, w11⟩ := h11
  have w11 := AM.i64_wf w11
  exact ⟨⟨x0, x1, x2, x3, ⟨x4, x5, x6, x7, x8, x9, x10, x11⟩⟩, rfl, ⟨b2, w1.1, Int.lt_of_le_of_lt w1.2 (by decide)⟩, by simp⟩

theorem lv_va : leaves Try.prog 6 32 = some [.i .i64, .i .i64, .i .u64, .s, .b, .i .i64, .i .i64, .i .i64, .i .i64, .i .i64, .i .i64, .i .i64] := by kernel_rfl

theorem row_ty {r : List AV} {cs : List Value} (h : Cells [.i .u8, .b] r cs) : ∃ p : Ty, AV.pc r = p.pay ∧ p.t < 256 := by
  rcases h with _ | ⟨h0, h⟩
  rcases h with _ | ⟨h1, h⟩
  cases h
  obtain ⟨x0, rfl, _, w0⟩ := h0
  obtain ⟨x0, rfl, b0⟩ := AM.nat_wf rfl w0
  obtain ⟨x1, rfl, _⟩ := h1
  exact ⟨⟨x0, x1⟩, rfl, b0⟩

theorem lv_ty : leaves Try.prog 6 27 = some [.i .u8, .b] := by kernel_rfl

/-- a row of them -/
theorem arg_tys {H : Type} {enc : TypeId × Value → H} {W : World} {base : Nat} {v : Value} {d : DataW H} {ps : List MemPlace} (hval : Value.okWide Try.prog W .any base 43 v) (hd : DataW.Trod enc Try.prog W 0 (fun _ => true) true 43 v d ps) :
    ∃ (c : Nat) (l : List Ty), (∀ p ∈ l, p.t < 256) ∧ (c = 0 → l = []) ∧ l.length ≤ maxLen ∧ AM.VRel (AM.start W) (AM.T0 W.heap.size) (.ro c (.pr 2 (l.map Ty.pay)) 1) v := by
  obtain ⟨c, rows, h1, h2, h3, h4⟩ := AM.arg_rows (show Try.prog.underlying 43 = some (.slice 27) by kernel_rfl) lv_ty (by kernel_rfl) (by simp) hval hd
  obtain ⟨l, q1, q2, q3⟩ := AM.rows_as AV.pc Ty.pay (Q := fun p => p.t < 256) (rows := rows) (fun r hr => by
    obtain ⟨⟨cs, h⟩, hs⟩ := h1 r hr
    obtain ⟨p, e, h5⟩ := row_ty h
    exact ⟨p, e, h5⟩)
  refine ⟨c, l, q3, fun h => ?_, by rw [q2]; exact h3, ?_⟩
  · have := h2 h
    subst this
    exact List.eq_nil_of_length_eq_zero q2
  · rw [← q1]
    exact h4

end Go.Proofs.Ytbmddnokokoofaa
