/- DP to DP: texts of this claim, one behind the other; what each shows stands at its head. -/
import Derived.Test.YteblpjhkgdpchaaMg4
/- Walks: the law DeflateGreedy, whole. -/
namespace Go.Proofs.Yteblpjhkgdpchaa
open Go.AM
set_option linter.unusedSimpArgs false
set_option linter.unusedVariables false

theorem piece_byte {b : List UInt8} {M : Pls} {p : Nat} (hp : p < b.length) (h : (pieceB b M p).len = 0) : b[p]? = some (pieceB b M p).byte := by
  unfold pieceB at h ⊢
  split at h
  · rename_i h3
    simp only at h
    omega
  · rename_i h3
    rw [if_neg h3]
    simp only
    rw [List.getD_eq_getElem?_getD, List.getElem?_eq_getElem hp]; rfl

section
variable (c : Nat) (b : List UInt8)

set_option maxRecDepth 100000 in
theorem greedy_law : ∃ code, Try.f5.body = some code ∧
    Tells (Rets fun fr H => getF fr 2 = .bool true) X (evT X) 5 0 code [(0, .ro c (.pb b) 1)] [] := by
  refine ⟨_, rfl, ?_⟩
  have hL := lives_ev []
  apply Tells.seq (fr' := [(0, .ro c (.pb b) 1)]) (H' := [])
  · (refine ⟨0, ?_⟩; simp (maxSteps := 2000000) -implicitDefEqProofs [-getElem?_pos, List.getElem?_cons_zero, List.getElem?_cons_succ, go_sem, eqV, plen, loadV, storeV])
  apply Tells.assoc
  apply Tells.seq (fr' := [(0, .ro c (.pb b) 1), (10, .bool false)]) (H' := [])
  · (refine ⟨0, ?_⟩; simp (maxSteps := 2000000) -implicitDefEqProofs [-getElem?_pos, List.getElem?_cons_zero, List.getElem?_cons_succ, go_sem, eqV, plen, loadV, storeV, hL])
  apply Tells.seq (fr' := [(0, .ro c (.pb b) 1), (10, .bool false)]) (H' := [])
  · refine ⟨0, ?_⟩
    simp (maxSteps := 2000000) -implicitDefEqProofs [-getElem?_pos, List.getElem?_cons_zero, List.getElem?_cons_succ, go_sem, eqV, plen, loadV, storeV]
  by_cases hb : (300 : Int) < (b.length : Int)
  · refine Tells.of (o := ⟨.ret, [(2, .bool true)], []⟩) ⟨0, ?_⟩ ⟨rfl, rfl⟩
    simp (maxSteps := 2000000) -implicitDefEqProofs [-getElem?_pos, List.getElem?_cons_zero, List.getElem?_cons_succ, go_sem, eqV, plen, loadV, storeV, hb]
  have hbl : b.length ≤ 300 := by omega
  apply Tells.assoc
  apply Tells.seq (fr' := [(0, .ro c (.pb b) 1), (13, .bool false)]) (H' := [])
  · (refine ⟨0, ?_⟩; simp (maxSteps := 2000000) -implicitDefEqProofs [-getElem?_pos, List.getElem?_cons_zero, List.getElem?_cons_succ, go_sem, eqV, plen, loadV, storeV, hb])
  apply Tells.seq (fr' := [(0, .ro c (.pb b) 1), (13, .bool false)]) (H' := [])
  · refine ⟨0, ?_⟩
    simp (maxSteps := 2000000) -implicitDefEqProofs [-getElem?_pos, List.getElem?_cons_zero, List.getElem?_cons_succ, go_sem, eqV, plen, loadV, storeV]
  obtain ⟨ob, hw, hP⟩ := pieces_ev (H := []) (a := .ro c (.pb b) 1) (b := b) rfl (by omega)
  have hlen := pcsF_len b b.length [] 0
  generalize hLd : pcsF b b.length [] 0 = L at *
  simp only [List.length_nil, List.nil_append] at hP
  have ho : ([some ob] : AM.Heap)[0]? = some (some ob) := rfl
  generalize [some ob] = E at *
  apply Tells.seq (fr' := [(0, .ro c (.pb b) 1), (3, .sl 0 0 L.length 0)]) (H' := E)
  · generalize L.length = N at *
    (refine ⟨0, ?_⟩; simp (maxSteps := 2000000) -implicitDefEqProofs [-getElem?_pos, List.getElem?_cons_zero, List.getElem?_cons_succ, go_sem, eqV, plen, loadV, storeV, hP, assignV])
  apply Tells.seq (fr' := [(0, .ro c (.pb b) 1), (3, .sl 0 0 L.length 0), (4, .int .i64 0)]) (H' := E)
  · generalize L.length = N at *
    (refine ⟨0, ?_⟩; simp (maxSteps := 2000000) -implicitDefEqProofs [-getElem?_pos, List.getElem?_cons_zero, List.getElem?_cons_succ, go_sem, eqV, plen, loadV, storeV, assignV])
  apply Tells.assoc
  apply Tells.seq (fr' := grF5 c b 0 L.length 0 0) (H' := E)
  · simp only [grF5]
    generalize L.length = N at *
    (refine ⟨0, ?_⟩; simp (maxSteps := 2000000) -implicitDefEqProofs [-getElem?_pos, List.getElem?_cons_zero, List.getElem?_cons_succ, go_sem, eqV, plen, loadV, storeV, assignV])
  have hg0 := hw.g
  apply Tells.andThen (P := fun fr H => getF fr 0 = .ro c (.pb b) 1 ∧ getF fr 4 = .int .i64 (b.length : Nat))
  · apply Tells.block
    refine Tells.loopP (I := fun f fr H => ∃ p i, p ≤ b.length ∧ b.length ≤ p + f ∧ i ≤ L.length ∧ fr = grF5 c b 0 L.length p i ∧ H = E ∧ L.drop i = pcsF b f (ntUp b [] 0 p) p) ?_ (k := b.length) ⟨0, 0, by omega, by omega, by omega, rfl, rfl, hLd.symm⟩
    rintro f fr H ⟨p, i, hp, hf, hi, rfl, rfl, hd⟩
    by_cases hpl : p < b.length
    · obtain ⟨f, rfl⟩ : ∃ f', f = f' + 1 := ⟨f - 1, by omega⟩
      rw [pcsF, if_pos hpl] at hd
      have hil : i < L.length := by
        refine Classical.byContradiction fun hc => ?_
        rw [List.drop_of_length_le (by omega)] at hd
        cases hd
      have hx : L[i]? = some (pieceB b (ntUp b [] 0 p) p) := by
        rw [List.drop_eq_getElem_cons hil] at hd
        rw [List.getElem?_eq_getElem hil, (List.cons.inj hd).1]
      have hd2 : L.drop (i + 1) = pcsF b f (ntUp b [] 0 (p + max 1 (pieceB b (ntUp b [] 0 p) p).len)) (p + max 1 (pieceB b (ntUp b [] 0 p) p).len) := by
        rw [List.drop_eq_getElem_cons hil] at hd
        rw [(List.cons.inj hd).2]
        have := up_up b [] 0 p (max 1 (pieceB b (ntUp b [] 0 p) p).len)
        rw [Nat.zero_add] at this
        rw [this]
      have hfit := piece_fit (M := ntUp b [] 0 p) hpl
      have hgr : ∀ back, 1 ≤ back → back ≤ p → 3 ≤ sameB b (p - back) p 258 0 → _ := fun back h1 h2 h3 => piece_greedy (b := b) (p := p) (back := back) (by omega) h1 h2 h3
      have hby := piece_byte (M := ntUp b [] 0 p) hpl
      generalize pieceB b (ntUp b [] 0 p) p = x at *
      have h10 := gr_r10 (m := 0) (c := c) (b := b) (p := p) ho hw hx (by omega)
      have h11 := gr_r11 (m := 0) (c := c) (b := b) (n := max 1 x.len) ho hw hx (by omega) (by omega) hfit (Nat.le_max_left _ _) hby
      have hbk := gr_backs (m := 0) (c := c) (b := b) (n := max 1 x.len) ho hw hx (by omega) (by omega) (by omega) hgr
      have hn1 : 1 ≤ max 1 x.len := Nat.le_max_left _ _
      generalize max 1 x.len = n at *
      have hiI : (i : Int) < (L.length : Int) := by omega
      have w1 : IntKind.i64.wrap ((i : Int) + 1) = ((i + 1 : Nat) : Int) := by rw [wrap_i64 (by omega) (by omega)]; omega
      have w2 : IntKind.i64.wrap ((p : Int) + (n : Int)) = ((p + n : Nat) : Int) := by rw [wrap_i64 (by omega) (by omega)]; omega
      refine Tells.of (o := ⟨.normal, grF5 c b 0 L.length (p + n) (i + 1), H⟩) ?_ (.inl ⟨rfl, f, by omega, p + n, i + 1, hfit, by omega, by omega, rfl, rfl, hd2⟩)
      apply Run.seq (fr' := grF5 c b 0 L.length p i ++ [(19, .bool true)]) (H' := H)
      · apply Run.seq (fr' := grF5 c b 0 L.length p i ++ [(19, .bool true)]) (H' := H)
        · simp only [grF5]
          generalize L.length = N at *
          (refine ⟨0, ?_⟩; simp (maxSteps := 2000000) -implicitDefEqProofs [-getElem?_pos, List.getElem?_cons_zero, List.getElem?_cons_succ, go_sem, eqV, plen, loadV, storeV, ho, hg0, hiI, hil])
        · exact Run.cond (d := true) (by simp [grF5, evalO, getF]) ⟨0, rfl⟩
      apply Run.seq (fr' := grF5 c b 0 L.length (p + n) i) (H' := H)
      · refine Run.block ?_ (by simp)
        apply Run.seq (piece h10 _ rfl)
        apply Run.seq (fr' := grF6 c b 0 L.length p i n ++ [(53, .bool false)]) (H' := H)
        · apply Run.seq (piece h11 _ rfl)
          exact Run.cond (d := false) (by simp [grF6, evalO, getF]) ⟨0, rfl⟩
        apply Run.seq (fr' := grF7 c b 0 L.length p i n (p + 1) ++ [(56, .bool false)]) (H' := H)
        · apply Run.seq (fr' := grF7 c b 0 L.length p i n 1) (H' := H)
          · simp only [grF6, grF7]
            generalize L.length = N at *
            (refine ⟨0, ?_⟩; simp (maxSteps := 2000000) -implicitDefEqProofs [-getElem?_pos, List.getElem?_cons_zero, List.getElem?_cons_succ, go_sem, eqV, plen, loadV, storeV, assignV])
          · exact piece hbk _ rfl
        · simp only [grF5, grF7]
          generalize L.length = N at *
          generalize p + n = pn at *
          (refine ⟨0, ?_⟩; simp (maxSteps := 2000000) -implicitDefEqProofs [-getElem?_pos, List.getElem?_cons_zero, List.getElem?_cons_succ, go_sem, eqV, plen, loadV, storeV, w2, assignV])
      · simp only [grF5]
        generalize L.length = N at *
        generalize p + n = pn at *
        generalize i + 1 = i1 at *
        (refine ⟨0, ?_⟩; simp (maxSteps := 2000000) -implicitDefEqProofs [-getElem?_pos, List.getElem?_cons_zero, List.getElem?_cons_succ, go_sem, eqV, plen, loadV, storeV, w1, assignV])
    · have hpe : p = b.length := by omega
      have hie : i = L.length := by
        have hd0 : pcsF b f (ntUp b [] 0 p) p = [] := by
          cases f with
          | zero => rfl
          | succ f => rw [pcsF, if_neg hpl]
        rw [hd0] at hd
        have := List.drop_eq_nil_iff.1 hd
        omega
      refine Tells.of (o := ⟨.exit 0, grF5 c b 0 L.length p i ++ [(19, .bool false)], H⟩) ?_ (.inr ⟨by simp, rfl, by simp [grF5, getF], by simp [grF5, getF, hpe]⟩)
      have hiI : ¬ (i : Int) < (L.length : Int) := by omega
      have hiN : ¬ i < L.length := by omega
      refine Run.seq_out ?_ (by simp)
      apply Run.seq (fr' := grF5 c b 0 L.length p i ++ [(19, .bool false)]) (H' := H)
      · simp only [grF5]
        generalize L.length = N at *
        (refine ⟨0, ?_⟩; simp (maxSteps := 2000000) -implicitDefEqProofs [-getElem?_pos, List.getElem?_cons_zero, List.getElem?_cons_succ, go_sem, eqV, plen, loadV, storeV, ho, hg0, hiI, hiN])
      · exact Run.cond (d := false) (by simp [grF5, evalO, getF]) ⟨0, rfl⟩
  · rintro fr H ⟨h0, h4⟩
    refine Tells.of (o := ⟨.ret, [(2, .bool true)], H⟩) ⟨0, ?_⟩ ⟨rfl, rfl⟩
    generalize hN : b.length = N at *
    simp (maxSteps := 2000000) -implicitDefEqProofs [-getElem?_pos, List.getElem?_cons_zero, List.getElem?_cons_succ, go_sem, eqV, plen, loadV, storeV, h0, h4, hN]

end

end Go.Proofs.Yteblpjhkgdpchaa
