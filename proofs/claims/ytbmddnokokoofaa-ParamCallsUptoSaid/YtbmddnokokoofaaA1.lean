/- Walks: small, lives, the law ParamCalls. -/
import Derived.Test.YtbmddnokokoofaaVF
import Derived.Test.YtbmddnokokoofaaF3
namespace Go.Proofs.Ytbmddnokokoofaa
open Go.AM
set_option linter.unusedSimpArgs false
set_option linter.unusedVariables false

theorem lives_ev (H : AM.Heap) : evT X 10 [] H = some (.bool true, H) :=
  evT_eq (Ev1.triedP (T := fun _ _ _ => none) Below.none (n := 400) (f := 10) (args := []) (v := .bool true) (by kernel_rfl) rfl H)

/-- the texts' lengths -/
def sumT (l : List Pm) : Nat := (l.map fun p => p.v.t.length).sum
def smL (l : List Pm) : Bool := decide (l.length ≤ 60) && decide (sumT (l.take 61) ≤ 3000)

theorem sumT_le {l : List Pm} (h : ∀ p ∈ l, p.v.t.length ≤ 1048576) : ∀ i, sumT (l.take i) ≤ 1048576 * i
  | 0 => by simp [sumT]
  | i + 1 => by
    have := sumT_le h i
    rw [List.take_add_one]
    cases hp : l[i]? with
    | none => simp only [Option.toList_none, List.append_nil]; omega
    | some p =>
      have := h p (List.mem_of_getElem? hp)
      simp only [Option.toList_some, sumT, List.map_append, List.sum_append, List.map_cons, List.map_nil, List.sum_cons, List.sum_nil] at *
      omega

section
variable (d t : Nat) (l : List Pm)

def smFr (i : Nat) : AM.Frame := [(0, .ro d (.pr 15 (l.map Pm.pay)) t), (3, .int .i64 (sumT (l.take i) : Nat)), (4, .int .i64 (i : Nat))]

set_option maxRecDepth 100000 in
set_option maxHeartbeats 4000000 in
theorem small_code (hl : ∀ p ∈ l, p.v.t.length ≤ 1048576) : ∃ code, Try.f12.body = some code ∧
    Tells (Rets fun fr H => getF fr 2 = .bool (smL l)) X (evT X) 12 0 code [(0, .ro d (pmL l) t)] [] := by
  refine ⟨_, rfl, ?_⟩
  have hLl : (l.map Pm.pay).length = l.length := List.length_map _
  unfold pmL
  apply Tells.seq (fr' := [(0, .ro d (.pr 15 (l.map Pm.pay)) t)]) (H' := [])
  · generalize l.map Pm.pay = L at *
    (refine ⟨0, ?_⟩; simp (maxSteps := 2000000) -implicitDefEqProofs [-getElem?_pos, List.getElem?_cons_zero, List.getElem?_cons_succ, go_sem, eqV, plen, loadV, storeV])
  apply Tells.seq (fr' := [(0, .ro d (.pr 15 (l.map Pm.pay)) t), (3, .int .i64 0)]) (H' := [])
  · generalize l.map Pm.pay = L at *
    (refine ⟨0, ?_⟩; simp (maxSteps := 2000000) -implicitDefEqProofs [-getElem?_pos, List.getElem?_cons_zero, List.getElem?_cons_succ, go_sem, eqV, plen, loadV, storeV])
  apply Tells.assoc
  apply Tells.seq (fr' := smFr d t l 0) (H' := [])
  · unfold smFr
    generalize l.map Pm.pay = L at *
    (refine ⟨0, ?_⟩; simp (maxSteps := 2000000) -implicitDefEqProofs [-getElem?_pos, List.getElem?_cons_zero, List.getElem?_cons_succ, go_sem, eqV, plen, loadV, storeV, sumT])
  apply Tells.andThen (P := fun fr H => H = [] ∧ fr = smFr d t l (min l.length 61) ++ [(12, .bool false)])
  · apply Tells.block
    refine Tells.loopP (fun k fr H => ∃ i, k = 61 - i ∧ i ≤ 61 ∧ i ≤ l.length ∧ H = [] ∧ fr = smFr d t l i) ?_ (k := 61) ⟨0, rfl, by omega, by omega, rfl, rfl⟩
    rintro k fr H ⟨i, rfl, hi, hil, rfl, rfl⟩
    have hs := sumT_le hl i
    apply Tells.assoc
    by_cases hin : i = l.length
    · refine Tells.of (o := ⟨.exit 0, smFr d t l i ++ [(12, .bool false)], []⟩) ⟨0, ?_⟩ (.inr ⟨by simp, rfl, rfl, by rw [show min l.length 61 = i by omega]⟩)
      have hni : ¬ (i : Int) < (l.length : Int) := by omega
      unfold smFr
      generalize l.map Pm.pay = L at *
      generalize sumT (l.take i) = n at *
      simp (maxSteps := 2000000) -implicitDefEqProofs [-getElem?_pos, List.getElem?_cons_zero, List.getElem?_cons_succ, go_sem, eqV, plen, loadV, storeV, hLl, hni]
    have hiI : (i : Int) < (l.length : Int) := by omega
    by_cases h61 : i = 61
    · refine Tells.of (o := ⟨.exit 0, smFr d t l i ++ [(12, .bool false)], []⟩) ⟨0, ?_⟩ (.inr ⟨by simp, rfl, rfl, by rw [show min l.length 61 = i by omega]⟩)
      have hni : ¬ (i : Int) ≤ 60 := by omega
      unfold smFr
      generalize l.map Pm.pay = L at *
      generalize sumT (l.take i) = n at *
      simp (maxSteps := 2000000) -implicitDefEqProofs [-getElem?_pos, List.getElem?_cons_zero, List.getElem?_cons_succ, go_sem, eqV, plen, loadV, storeV, hLl, hiI, hni]
    have h60 : (i : Int) ≤ 60 := by omega
    obtain ⟨p, hp⟩ : ∃ p, l[i]? = some p := ⟨_, List.getElem?_eq_getElem (show i < l.length by omega)⟩
    have hlt : i < l.length := by omega
    have hrow : (l.map Pm.pay)[i]? = some p.pay := by rw [List.getElem?_map, hp]; rfl
    have hpl := hl p (List.mem_of_getElem? hp)
    have hsn : sumT (l.take (i + 1)) = sumT (l.take i) + p.v.t.length := by
      rw [List.take_add_one, hp]; simp [sumT]
    have w1 : IntKind.i64.wrap ((i : Int) + 1) = ((i + 1 : Nat) : Int) := by rw [wrap_i64 (by omega) (by omega)]; omega
    have w2 : IntKind.i64.wrap ((sumT (l.take i) : Nat) + (p.v.t.length : Int)) = ((sumT (l.take (i + 1)) : Nat) : Int) := by
      rw [hsn, wrap_i64 (by omega) (by omega)]; omega
    refine Tells.of (o := ⟨.normal, smFr d t l (i + 1), []⟩) ⟨0, ?_⟩ (.inl ⟨rfl, 61 - (i + 1), by omega, i + 1, rfl, by omega, by omega, rfl, rfl⟩)
    unfold smFr
    generalize l.map Pm.pay = L at *
    generalize sumT (l.take (i + 1)) = n1 at *
    generalize sumT (l.take i) = n at *
    simp only [Pm.pay] at hrow
    simp (maxSteps := 2000000) -implicitDefEqProofs [-getElem?_pos, List.getElem?_cons_zero, List.getElem?_cons_succ, go_sem, eqV, plen, loadV, storeV, hLl, hiI, h60, hlt, hrow, w1, w2]
  rintro fr H ⟨rfl, rfl⟩
  have hsm : smL l = (decide (l.length ≤ 60) && decide (sumT (l.take (min l.length 61)) ≤ 3000)) := by
    unfold smL
    by_cases h : l.length ≤ 60
    · rw [show min l.length 61 = l.length by omega, List.take_length, List.take_of_length_le (by omega)]
    · simp [h]
  refine Tells.of (o := ⟨.ret, [(2, .bool (smL l))], []⟩) ⟨0, ?_⟩ ⟨rfl, rfl⟩
  rw [hsm]
  unfold smFr
  generalize l.map Pm.pay = L at *
  generalize sumT (l.take (min l.length 61)) = n at *
  generalize min l.length 61 = m at *
  by_cases h : l.length ≤ 60
  · have hi : (l.length : Int) ≤ 60 := by omega
    by_cases h3 : n ≤ 3000
    · have h3i : (n : Int) ≤ 3000 := by omega
      simp (maxSteps := 2000000) -implicitDefEqProofs [-getElem?_pos, List.getElem?_cons_zero, List.getElem?_cons_succ, go_sem, eqV, plen, loadV, storeV, hLl, hi, h, h3, h3i]
    · have h3i : ¬ (n : Int) ≤ 3000 := by omega
      simp (maxSteps := 2000000) -implicitDefEqProofs [-getElem?_pos, List.getElem?_cons_zero, List.getElem?_cons_succ, go_sem, eqV, plen, loadV, storeV, hLl, hi, h, h3, h3i]
  · have hi : ¬ (l.length : Int) ≤ 60 := by omega
    simp (maxSteps := 2000000) -implicitDefEqProofs [-getElem?_pos, List.getElem?_cons_zero, List.getElem?_cons_succ, go_sem, eqV, plen, loadV, storeV, hLl, hi, h]

end

theorem small_ev {H : AM.Heap} {d t : Nat} {l : List Pm} (hl : ∀ p ∈ l, p.v.t.length ≤ 1048576) :
    evT X 12 [.ro d (pmL l) t] H = some (.bool (smL l), H) := by
  obtain ⟨code, hcode, o, ⟨he, h2⟩, hr⟩ := small_code d 1 l hl
  exact evT_eq (Ev1.toldP (l := [.bool (smL l)]) (evT_below X) Try.func12 hcode (args_pm (args_nil 1)) (by simp [idsL, ids]) (by simp [gtag]) rfl rfl rfl ⟨o, ⟨he, by show some [getF o.fr 2] = _; rw [h2]⟩, by rw [par12, coPm]; exact hr⟩)

end Go.Proofs.Ytbmddnokokoofaa
