/- DI to E6: texts of this claim, one behind the other; what each shows stands at its head. -/
import Derived.Test.YteblpjhkgdpchaaAm3
import Derived.Test.YteblpjhkgdpchaaMg1
/- Walks: Pieces. -/
namespace Go.Proofs.Yteblpjhkgdpchaa
open Go.AM
set_option linter.unusedSimpArgs false
set_option linter.unusedVariables false

/-- places noted, k of them from p on -/
def ntUp (b : List UInt8) (M : Pls) (p : Nat) : Nat → Pls
  | 0 => M
  | k + 1 => ntB b (ntUp b M p k) (p + k)

/-- the pieces from p on -/
def pcsF (b : List UInt8) : Nat → Pls → Nat → List Pc
  | 0, _, _ => []
  | f + 1, M, p => if p < b.length then pieceB b M p :: pcsF b f (ntUp b M p (max 1 (pieceB b M p).len)) (p + max 1 (pieceB b M p).len) else []

/-- what is noted below p -/
def PlOk (M : Pls) (p : Nat) : Prop := M.length ≤ p ∧ ∀ y ∈ M, y.1.length = 3 ∧ y.2.length ≤ p ∧ ∀ x ∈ y.2, x < p

theorem PlOk.nt {b : List UInt8} {M : Pls} {p : Nat} (h : PlOk M p) : PlOk (ntB b M p) (p + 1) := by
  unfold ntB
  by_cases hl : p + 3 ≤ b.length
  · rw [if_pos hl]
    have hkl : (key3 b p).length = 3 := by unfold key3; rw [List.length_take, List.length_drop]; omega
    cases hidx : idxK (key3 b p) M 0 with
    | none =>
      rw [nt_none hidx]
      refine ⟨by simp; exact h.1, ?_⟩
      intro y hy
      rcases List.mem_append.1 hy with hy | hy
      · obtain ⟨a1, a2, a3⟩ := h.2 y hy
        exact ⟨a1, by omega, fun x hx => by have := a3 x hx; omega⟩
      · rw [List.mem_singleton.1 hy]
        refine ⟨hkl, by simp, fun x hx => ?_⟩
        rw [List.mem_singleton.1 hx]
        omega
    | some j =>
      obtain ⟨_, l, hl2⟩ := idxK_at hidx
      rw [Nat.sub_zero] at hl2
      rw [nt_some hidx hl2]
      refine ⟨by simp; have := h.1; omega, ?_⟩
      intro y hy
      rcases List.mem_or_eq_of_mem_set hy with hy | rfl
      · obtain ⟨a1, a2, a3⟩ := h.2 y hy
        exact ⟨a1, by omega, fun x hx => by have := a3 x hx; omega⟩
      · obtain ⟨a1, a2, a3⟩ := h.2 _ (List.mem_of_getElem? hl2)
        refine ⟨hkl, by simp; exact a2, fun x hx => ?_⟩
        rcases List.mem_append.1 hx with hx | hx
        · have := a3 x hx; omega
        · rw [List.mem_singleton.1 hx]; omega
  · rw [if_neg hl]
    refine ⟨by have := h.1; omega, fun y hy => ?_⟩
    obtain ⟨a1, a2, a3⟩ := h.2 y hy
    exact ⟨a1, by omega, fun x hx => by have := a3 x hx; omega⟩
theorem PlOk.up {b : List UInt8} {M : Pls} {p : Nat} (h : PlOk M p) : ∀ k, PlOk (ntUp b M p k) (p + k)
  | 0 => h
  | k + 1 => by
    have := (PlOk.up (b := b) h k).nt (b := b)
    exact this

theorem sameB_fit (b : List UInt8) (i k : Nat) : ∀ (f n : Nat), k + n ≤ b.length → k + sameB b i k f n ≤ b.length
  | 0, n, h => h
  | f + 1, n, h => by
    unfold sameB
    split
    · exact sameB_fit b i k f (n + 1) (by omega)
    · exact h
theorem srch_fit (b : List UInt8) (p : Nat) (hp : p ≤ b.length) : ∀ (l : List Nat) (s : Nat × Nat), p + s.1 ≤ b.length → s.1 ≤ 258 → p + (srchL b p l s).1 ≤ b.length ∧ (srchL b p l s).1 ≤ 258
  | [], s, h, h2 => ⟨h, h2⟩
  | x :: r, s, h, h2 => by
    unfold srchL
    split
    · refine srch_fit b p hp r _ ?_ ?_
      · split
        · exact sameB_fit b x p 258 0 (by omega)
        · exact h
      · split
        · exact (sameB_le b x p 258 0 (by omega)).1
        · exact h2
    · exact ⟨h, h2⟩
theorem best_fit {b : List UInt8} {M : Pls} {p : Nat} (hp : p ≤ b.length) : p + (bestB b M p).1 ≤ b.length ∧ (bestB b M p).1 ≤ 258 := by
  unfold bestB
  split
  · exact srch_fit b p hp _ _ (by simpa using hp) (by simp)
  · exact ⟨by simpa using hp, by simp⟩
theorem piece_fit {b : List UInt8} {M : Pls} {p : Nat} (hp : p < b.length) : p + max 1 (pieceB b M p).len ≤ b.length := by
  have := best_fit (M := M) (Nat.le_of_lt hp)
  unfold pieceB
  split <;> simp only <;> omega

section
variable {c : Nat} {b : List UInt8} {t : Nat} {H : AM.Heap} {ex : List (Nat × Nat)} {M : Pls}

/-- the pieces told so far, and the places -/
structure PcV (c : Nat) (b : List UInt8) (t : Nat) (E : AM.Heap) (v : AV) (L : List Pc) (ex : List (Nat × Nat)) (M : Pls) : Prop where
  nt : NtV c b t E 0 4 3 ex M
  row : ∃ g ob, v = .sl 2 0 L.length g ∧ E[2]? = some (some ob) ∧ Rw (.pr 3 (L.map pcR)) g ob
  off : ∀ x ∈ ex, x.1 ≠ 2

set_option maxRecDepth 100000 in
theorem pi_r21 {m p n i : Nat} {v : AV} {E E' : AM.Heap} (hp : p ≤ 100000) (hi : i ≤ 100000) (hE : evT X 23 [.int .i64 (p : Nat), .ptr 0 0 0 0, .ptr 4 0 0 0] E = some (.tup [], E')) : ∃ code, ((Try.f10.body).bind (codeAt [1, 1, 1, 1, 0, 1, 0, 0, 1, 0, 1, 1, 1, 1, 1, 1, 0, 0, 1, 1])) = some code ∧ Run X (evT X) 10 m code (pnFr v p n i ++ [(96, .bool true)]) E ⟨.normal, pnFr v (p + 1) n (i + 1), E'⟩ := by
  refine ⟨_, rfl, ?_⟩
  have w1 : IntKind.i64.wrap ((p : Int) + 1) = ((p + 1 : Nat) : Int) := by rw [wrap_i64 (by omega) (by omega)]; omega
  have w2 : IntKind.i64.wrap ((i : Int) + 1) = ((i + 1 : Nat) : Int) := by rw [wrap_i64 (by omega) (by omega)]; omega
  apply Run.seq (fr' := pnFr v (p + 1) n i) (H' := E')
  · apply Run.block
    · apply Run.seq (fr' := pnFr v p n i) (H' := E')
      · simp only [pnFr, fnV]
        (refine ⟨0, ?_⟩; simp (maxSteps := 2000000) -implicitDefEqProofs [-getElem?_pos, List.getElem?_cons_zero, List.getElem?_cons_succ, go_sem, eqV, plen, loadV, storeV, hE])
      · generalize p + 1 = p1 at *
        simp only [pnFr, fnV]
        (refine ⟨0, ?_⟩; simp (maxSteps := 2000000) -implicitDefEqProofs [-getElem?_pos, List.getElem?_cons_zero, List.getElem?_cons_succ, go_sem, eqV, plen, loadV, storeV, w1, assignV])
    · simp
  · generalize p + 1 = p1 at *
    generalize i + 1 = i1 at *
    simp only [pnFr, fnV]
    (refine ⟨0, ?_⟩; simp (maxSteps := 2000000) -implicitDefEqProofs [-getElem?_pos, List.getElem?_cons_zero, List.getElem?_cons_succ, go_sem, eqV, plen, loadV, storeV, w2])

/-- a place noted, the pieces kept -/
theorem PcV.note {p : Nat} {v : AV} {L : List Pc} {E : AM.Heap} (h : PcV c b t E v L ex M) (hM : PlOk M p) (hp : p ≤ 1400) (hb : b.length ≤ 1400) : ∃ E' ex', evT X 23 [.int .i64 (p : Nat), .ptr 0 0 0 0, .ptr 4 0 0 0] E = some (.tup [], E') ∧ PcV c b t E' v L ex' (ntB b M p) ∧ E.length ≤ E'.length := by
  obtain ⟨E', ex', h1, h2, h3, h4, h5, h6⟩ := note_ev (i := p) h.nt (by omega) (by omega) (fun y hy => ⟨(hM.2 y hy).1, by have := (hM.2 y hy).2.1; omega⟩) (by have := hM.1; omega)
  obtain ⟨g, ob, rfl, ho, hw⟩ := h.row
  have hl := ltAt ho
  refine ⟨E', ex', h1, ⟨h2, ⟨g, ob, rfl, ?_, hw⟩, ?_⟩, h5⟩
  · rw [h6 2 hl (by omega) (by omega) (by omega) (fun hm => by
      obtain ⟨x, hx, hx2⟩ := List.mem_map.1 hm
      exact h.off x hx hx2)]
    exact ho
  · intro x hx
    obtain ⟨k, hk, rfl⟩ := List.mem_iff_getElem.1 hx
    by_cases hkl : k < ex.length
    · obtain ⟨g2, hg2⟩ := h3 k _ (List.getElem?_eq_getElem hkl)
      rw [List.getElem?_eq_getElem hk] at hg2
      rw [Option.some.inj hg2]
      have := h.off _ (List.getElem_mem hkl)
      exact this
    · have := h4 k _ (by omega) (List.getElem?_eq_getElem hk)
      omega

set_option maxRecDepth 100000 in
theorem pi_note {m p n : Nat} {v : AV} {L : List Pc} {E : AM.Heap} (h : PcV c b t E v L ex M) (hM : PlOk M p) (hp : p + n ≤ b.length) (hb : b.length ≤ 1400) :
    ∃ code, ((Try.f10.body).bind (codeAt [1, 1, 1, 1, 0, 1, 0, 0, 1, 0, 1, 1, 1, 1, 1, 1])) = some code ∧ Tells (Goes fun fr E' => fr = pnFr v (p + n) n n ++ [(96, .bool false)] ∧ ∃ ex', PcV c b t E' v L ex' (ntUp b M p n)) X (evT X) 10 m code (pnFr v p n 0) E := by
  refine ⟨_, rfl, ?_⟩
  apply Tells.block
  refine Tells.loopP (I := fun q fr E' => ∃ i ex', i ≤ n ∧ q = n - i ∧ fr = pnFr v (p + i) n i ∧ PcV c b t E' v L ex' (ntUp b M p i)) ?_ (k := n) ⟨0, ex, by omega, rfl, rfl, h⟩
  rintro q fr E' ⟨i, ex', hi, rfl, rfl, hV⟩
  by_cases hin : i = n
  · subst hin
    refine Tells.of (o := ⟨.exit 4, pnFr v (p + i) i i ++ [(96, .bool false)], E'⟩) ?_ (.inr ⟨by simp, rfl, rfl, ex', hV⟩)
    generalize p + i = pi at *
    refine ⟨0, ?_⟩
    simp only [pnFr]
    simp (maxSteps := 2000000) -implicitDefEqProofs [-getElem?_pos, List.getElem?_cons_zero, List.getElem?_cons_succ, go_sem, eqV, plen, loadV, storeV]
  · have hlt : i < n := by omega
    have hltI : (i : Int) < (n : Int) := by omega
    obtain ⟨E2, ex2, h1, h2, h3⟩ := hV.note (hM.up i) (by omega) hb
    refine Tells.of (o := ⟨.normal, pnFr v (p + i + 1) n (i + 1), E2⟩) ?_ (.inl ⟨rfl, n - (i + 1), by omega, i + 1, ex2, by omega, rfl, rfl, h2⟩)
    apply Run.seq (fr' := pnFr v (p + i) n i ++ [(96, .bool true)]) (H' := E')
    · generalize p + i = pi at *
      simp only [pnFr]
      (refine ⟨0, ?_⟩; simp (maxSteps := 2000000) -implicitDefEqProofs [-getElem?_pos, List.getElem?_cons_zero, List.getElem?_cons_succ, go_sem, eqV, plen, loadV, storeV, hltI, hlt])
    apply Run.seq (fr' := pnFr v (p + i) n i ++ [(96, .bool true)]) (H' := E')
    · exact Run.cond (d := true) (by simp [pnFr, evalO, getF]) ⟨0, rfl⟩
    exact piece (pi_r21 (by omega) (by omega) h1) _ rfl

end

end Go.Proofs.Yteblpjhkgdpchaa

/- Walks, events: Pieces. -/
namespace Go.Proofs.Yteblpjhkgdpchaa
open Go.AM
set_option linter.unusedSimpArgs false
set_option linter.unusedVariables false

section
variable {c : Nat} {b : List UInt8} {t : Nat} {H : AM.Heap} {ex : List (Nat × Nat)} {M : Pls}

set_option maxRecDepth 100000 in
/-- one piece -/
theorem pi_body {m p : Nat} {v : AV} {L : List Pc} {E : AM.Heap} (h : PcV c b t E v L ex M) (hM : PlOk M p) (hp : p < b.length) (hb : b.length ≤ 1400) (hL : L.length ≤ 1400) :
    ∃ code, ((Try.f10.body).bind (codeAt [1, 1, 1, 1, 0, 1, 0, 0, 1])) = some code ∧ Tells (Goes fun fr E' => ∃ v' ex', keepF [1, 3, 4, 5, 6] fr = pcFr v' (p + max 1 (pieceB b M p).len) ∧ PcV c b t E' v' (L ++ [pieceB b M p]) ex' (ntUp b M p (max 1 (pieceB b M p).len))) X (evT X) 10 m code (pcFr v p ++ [(18, .bool true)]) E := by
  refine ⟨_, rfl, ?_⟩
  refine Tells.blk ?_ (by
    rintro o ⟨ho, _⟩
    rw [ho]
    simp)
  apply Tells.seq (fr' := pbFr v p 0 0) (H' := E)
  · simp only [pcFr, pbFr]
    (refine ⟨0, ?_⟩; simp (maxSteps := 2000000) -implicitDefEqProofs [-getElem?_pos, List.getElem?_cons_zero, List.getElem?_cons_succ, go_sem, eqV, plen, loadV, storeV, assignV])
  apply Tells.andThen (piece (pi_best (m := m) (v := v) h.nt (fun y hy => ⟨(hM.2 y hy).1, by have := (hM.2 y hy).2.1; omega, (hM.2 y hy).2.2⟩) (by omega) (by omega)) _ rfl)
  rintro fr E1 ⟨hfr, r, rfl⟩
  obtain ⟨y, hy⟩ : ∃ y, b[p]? = some y := ⟨_, List.getElem?_eq_getElem hp⟩
  have hN1 := h.nt.cat r
  obtain ⟨τ1, τ2, _, _, h1⟩ := hN1.bx
  obtain ⟨g, ob, rfl, ho, hw⟩ := h.row
  have ho1 : (E ++ r)[2]? = some (some ob) := by rw [List.getElem?_append_left (ltAt ho)]; exact ho
  generalize E ++ r = E1 at *
  apply Tells.seq (piece (pi_r15 hfr h1 hy (by omega)) _ rfl)
  have hN2 := hN1.cat [some (pcO ⟨0, 0, y⟩)]
  have ho2 : (E1 ++ [some (pcO ⟨0, 0, y⟩)])[2]? = some (some ob) := by rw [List.getElem?_append_left (ltAt ho1)]; exact ho1
  have hq2 : (E1 ++ [some (pcO ⟨0, 0, y⟩)])[E1.length]? = some (some (pcO ⟨0, 0, y⟩)) := by simp
  have hlt1 := hN1.lt
  have hl1 := ltAt ho1
  generalize E1 ++ [some (pcO ⟨0, 0, y⟩)] = E2 at *
  obtain ⟨code17, hc17, fr17, hr17, hf17⟩ := pi_r17 (m := m) (p := p) (n := (bestB b M p).1) (d := (bestB b M p).2) (v := .sl 2 0 L.length g) hq2
  apply Tells.seq (fr' := fr17) (H' := if 3 ≤ (bestB b M p).1 then upd E2 E1.length (some (pcO ⟨(bestB b M p).1, (bestB b M p).2, 0⟩)) else E2)
  · exact (Option.some.inj hc17) ▸ hr17
  have h3 : ∃ E3, (if 3 ≤ (bestB b M p).1 then upd E2 E1.length (some (pcO ⟨(bestB b M p).1, (bestB b M p).2, 0⟩)) else E2) = E3 ∧ E3[E1.length]? = some (some (pcO (pieceB b M p))) ∧ (∀ j, j ≠ E1.length → E3[j]? = E2[j]?) := by
    refine ⟨_, rfl, ?_, ?_⟩
    · unfold pieceB
      by_cases hn : 3 ≤ (bestB b M p).1
      · rw [if_pos hn, if_pos hn]
        exact setAt hq2
      · rw [if_neg hn, if_neg hn, List.getD_eq_getElem?_getD, hy]
        exact hq2
    · intro j hj
      split
      · unfold upd
        rw [List.getElem?_set_ne (Ne.symm hj)]
      · rfl
  obtain ⟨E3, hE3, hq3, hk3⟩ := h3
  rw [hE3]
  clear hE3 hr17
  have hN3 : NtV c b t E3 0 4 3 ex M := hN2.keep (hk3 0 (by omega)) (hk3 4 (by omega)) (hk3 3 (by omega)) fun x hx => hk3 x.1 (by have := hlt1.2.2.2 x hx; omega)
  have ho3 : E3[2]? = some (some ob) := by rw [hk3 2 (by omega)]; exact ho2
  obtain ⟨ob', hw', hA⟩ := app_rows (C := X) (T := 22) (e := 25) (es := 3) (H := E3) (o := 2) (m := [pcR (pieceB b M p)]) (src := .ro 1 (.pr 3 [pcR (pieceB b M p)]) 0) (by simp) (by simp) (by omega) (by simp) (by simp) ho3 hw rfl (by simp; omega)
  rw [List.length_map] at hA
  apply Tells.seq (piece (pi_r18 hf17 hq3 hA) _ rfl)
  have hq4 : (upd E3 2 (some ob'))[E1.length]? = some (some (pcO (pieceB b M p))) := neAt hq3 (by omega)
  apply Tells.seq (piece (pi_r19 hq4) _ rfl)
  have hV : PcV c b t (upd E3 2 (some ob')) (.sl 2 0 (L.length + 1) (g + 1)) (L ++ [pieceB b M p]) ex M := by
    have hu : ∀ j, j ≠ 2 → (upd E3 2 (some ob'))[j]? = E3[j]? := fun j hj => by unfold upd; rw [List.getElem?_set_ne (Ne.symm hj)]
    refine ⟨hN3.keep (hu 0 (by omega)) (hu 4 (by omega)) (hu 3 (by omega)) fun x hx => hu x.1 (h.off x hx), ⟨g + 1, ob', by simp, setAt ho3, by rw [List.map_append]; exact hw'⟩, h.off⟩
  have hfit := piece_fit (M := M) hp
  refine (piece (pi_note (m := m) hV hM hfit hb) _ rfl).mono ?_
  rintro ⟨xx, fr, E'⟩ ⟨he, hfr2, ex', hV'⟩
  simp only at he hfr2 hV'
  subst hfr2
  exact ⟨he, _, ex', by simp [pnFr, pcFr, keepF, getF], hV'⟩

theorem isMapK : isMapT X 39 = true := by kernel_rfl
theorem emPc : emptyRow X 25 = .pr 3 [] := by kernel_rfl
theorem asgF (H : AM.Heap) (f : Nat) (l : List AV) : assignV X H 42 (.fn f l) = (.fn f l, H) := by
  unfold assignV
  cases und X 42 <;> rfl

set_option maxRecDepth 100000 in
theorem pieces_code {m : Nat} (hb : b.length ≤ 1400) : ∃ code, Try.f10.body = some code ∧
    Tells (Rets fun fr E' => ∃ g ob, getF fr 2 = .sl 2 0 (pcsF b b.length [] 0).length g ∧ E'[2]? = some (some ob) ∧ Rw (.pr 3 ((pcsF b b.length [] 0).map pcR)) g ob) X (evT X) 10 m code [(0, .ro c (.pb b) 1)] [] := by
  refine ⟨_, rfl, ?_⟩
  apply Tells.seq (fr' := [(1, .ptr 0 0 0 0)]) (H' := [some (bxN (.ro c (.pb b) 1) 0), some ⟨.pr 3 [], 0, none, 0, true, false, 0⟩])
  · simp only [bxN]
    (refine ⟨0, ?_⟩; simp (maxSteps := 2000000) -implicitDefEqProofs [-getElem?_pos, List.getElem?_cons_zero, List.getElem?_cons_succ, go_sem, eqV, plen, loadV, storeV, assignV, rowOf, emPc])
  apply Tells.seq (fr' := [(1, .ptr 0 0 0 0), (3, .sl 2 0 0 0)]) (H' := [some (bxN (.ro c (.pb b) 1) 0), some ⟨.pr 3 [], 0, none, 0, true, false, 0⟩, some ⟨.pr 3 [], 0, none, 0, true, false, 0⟩])
  · simp only [bxN]
    (refine ⟨0, ?_⟩; simp (maxSteps := 2000000) -implicitDefEqProofs [-getElem?_pos, List.getElem?_cons_zero, List.getElem?_cons_succ, go_sem, eqV, plen, loadV, storeV, assignV, rowOf, emPc])
  apply Tells.seq (fr' := [(1, .ptr 0 0 0 0), (3, .sl 2 0 0 0), (4, .ptr 4 0 0 0)]) (H' := [some (bxN (.ro c (.pb b) 1) 0), some ⟨.pr 3 [], 0, none, 0, true, false, 0⟩, some ⟨.pr 3 [], 0, none, 0, true, false, 0⟩, some (pmO [] 0), some (bxN (.map 3 0) 0)])
  · simp only [bxN, pmO]
    (refine ⟨0, ?_⟩; simp (maxSteps := 2000000) -implicitDefEqProofs [-getElem?_pos, List.getElem?_cons_zero, List.getElem?_cons_succ, go_sem, eqV, plen, loadV, storeV, isMapK, intOrNone, newMap])
  have hV : PcV c b 1 [some (bxN (.ro c (.pb b) 1) 0), some ⟨.pr 3 [], 0, none, 0, true, false, 0⟩, some ⟨.pr 3 [], 0, none, 0, true, false, 0⟩, some (pmO [] 0), some (bxN (.map 3 0) 0)] (.sl 2 0 0 0) [] [] [] :=
    ⟨⟨⟨1, 0, .inr rfl, .inl rfl, rfl⟩, ⟨0, .inl rfl, rfl⟩, ⟨0, .inl rfl, rfl⟩, trivial, by simp⟩, ⟨0, ⟨.pr 3 [], 0, none, 0, true, false, 0⟩, rfl, rfl, ⟨rfl, rfl, rfl, rfl, rfl⟩⟩, by simp⟩
  generalize [some (bxN (.ro c (.pb b) 1) 0), some (⟨.pr 3 [], 0, none, 0, true, false, 0⟩ : AM.Obj), some ⟨.pr 3 [], 0, none, 0, true, false, 0⟩, some (pmO [] 0), some (bxN (.map 3 0) 0)] = E0 at *
  apply Tells.seq (fr' := [(1, .ptr 0 0 0 0), (3, .sl 2 0 0 0), (4, .ptr 4 0 0 0), (5, fnV)]) (H' := E0)
  · simp only [fnV]
    (refine ⟨0, ?_⟩; simp (maxSteps := 2000000) -implicitDefEqProofs [-getElem?_pos, List.getElem?_cons_zero, List.getElem?_cons_succ, go_sem, eqV, plen, loadV, storeV, scalars, scalar])
  apply Tells.assoc
  apply Tells.seq (fr' := pcFr (.sl 2 0 0 0) 0) (H' := E0)
  · simp only [pcFr, fnV]
    (refine ⟨0, ?_⟩; simp (maxSteps := 2000000) -implicitDefEqProofs [-getElem?_pos, List.getElem?_cons_zero, List.getElem?_cons_succ, go_sem, eqV, plen, loadV, storeV])
  apply Tells.andThen (P := fun fr E' => ∃ v ex M, getF fr 3 = v ∧ PcV c b 1 E' v (pcsF b b.length [] 0) ex M)
  · apply Tells.block
    refine Tells.loopP (I := fun q fr E' => ∃ v L ex M p, keepF [1, 3, 4, 5, 6] fr = pcFr v p ∧ PcV c b 1 E' v L ex M ∧ PlOk M p ∧ p ≤ b.length ∧ b.length ≤ p + q ∧ L.length ≤ p ∧ L ++ pcsF b q M p = pcsF b b.length [] 0) ?_ (k := b.length) ⟨_, [], [], [], 0, by simp [pcFr, keepF, getF], hV, ⟨by simp, by simp⟩, by omega, by omega, by simp, rfl⟩
    rintro q fr E' ⟨v, L, ex, M, p, hfr, hV, hM, hp, hq, hL, he⟩
    have g1 : getF fr 1 = .ptr 0 0 0 0 := by simpa [keepF, pcFr, getF] using congrArg (fun f => getF f 1) hfr
    have g3 : getF fr 3 = v := by simpa [keepF, pcFr, getF] using congrArg (fun f => getF f 3) hfr
    have g4 : getF fr 4 = .ptr 4 0 0 0 := by simpa [keepF, pcFr, getF] using congrArg (fun f => getF f 4) hfr
    have g5 : getF fr 5 = fnV := by simpa [keepF, pcFr, getF] using congrArg (fun f => getF f 5) hfr
    have g6 : getF fr 6 = .int .i64 (p : Nat) := by simpa [keepF, pcFr, getF] using congrArg (fun f => getF f 6) hfr
    obtain ⟨τ1, τ2, _, _, h1⟩ := hV.nt.bx
    simp only [bxN] at h1
    apply Tells.assoc
    by_cases hpl : p < b.length
    · have hplI : (p : Int) < (b.length : Int) := by omega
      obtain ⟨q, rfl⟩ : ∃ q', q = q' + 1 := ⟨q - 1, by omega⟩
      apply Tells.seq (fr' := pcFr v p ++ [(18, .bool true)]) (H' := E')
      · simp only [pcFr]
        (refine ⟨0, ?_⟩; simp (maxSteps := 2000000) -implicitDefEqProofs [-getElem?_pos, List.getElem?_cons_zero, List.getElem?_cons_succ, go_sem, eqV, plen, loadV, storeV, g1, g3, g4, g5, g6, h1, hplI, hpl])
      apply Tells.seq (fr' := pcFr v p ++ [(18, .bool true)]) (H' := E')
      · exact Run.cond (d := true) (by simp [pcFr, evalO, getF]) ⟨0, rfl⟩
      refine (piece (pi_body (m := m) hV hM hpl hb (by omega)) _ rfl).mono ?_
      rintro ⟨xx, fr2, E2⟩ ⟨hx, v', ex', hfr2, hV2⟩
      simp only at hx hfr2 hV2
      subst hx
      have hfit := piece_fit (M := M) hpl
      refine .inl ⟨rfl, q, by omega, v', _, ex', _, _, hfr2, hV2, hM.up _, hfit, by omega, by simp; omega, ?_⟩
      rw [pcsF, if_pos hpl] at he
      rw [← he]
      simp
    · have hplI : ¬ (p : Int) < (b.length : Int) := by omega
      refine Tells.of (o := ⟨.exit 0, pcFr v p ++ [(18, .bool false)], E'⟩) ?_ (.inr ⟨by simp, rfl, v, ex, M, by simp [pcFr, getF], ?_⟩)
      · refine Run.seq (fr' := pcFr v p ++ [(18, .bool false)]) (H' := E') ?_ ?_
        · simp only [pcFr]
          (refine ⟨0, ?_⟩; simp (maxSteps := 2000000) -implicitDefEqProofs [-getElem?_pos, List.getElem?_cons_zero, List.getElem?_cons_succ, go_sem, eqV, plen, loadV, storeV, g1, g3, g4, g5, g6, h1, hplI, hpl])
        · refine Run.seq_out ?_ (by simp)
          exact Run.cond (d := false) (by simp [pcFr, evalO, getF]) ⟨0, rfl⟩
      · have hq0 : pcsF b q M p = [] := by
          cases q with
          | zero => rfl
          | succ q => rw [pcsF, if_neg hpl]
        rw [hq0, List.append_nil] at he
        rw [← he]
        exact hV
  rintro fr E' ⟨v, ex, M, hv, hV⟩
  obtain ⟨g, ob, rfl, ho, hw⟩ := hV.row
  generalize pcsF b b.length [] 0 = L at *
  refine Tells.of (o := ⟨.ret, [(2, .sl 2 0 L.length g)], E'⟩) ?_ ⟨rfl, g, ob, rfl, ho, hw⟩
  generalize L.length = N at *
  refine ⟨0, ?_⟩
  simp (maxSteps := 2000000) -implicitDefEqProofs [-getElem?_pos, List.getElem?_cons_zero, List.getElem?_cons_succ, go_sem, eqV, plen, loadV, storeV, hv, assignV]

theorem pcs_flat (L : List Pc) : idsL (L.map pcR) = [] ∧ tagsL (L.map pcR) = [] := by
  induction L with
  | nil => exact ⟨rfl, rfl⟩
  | cons x L ih => exact ⟨by simp [idsL, ih.1, pcR, ids], by simp [tagsL, ih.2, pcR, tags]⟩

theorem pieces_ev {H : AM.Heap} {a : AV} (ha : payOf H a = some (.pb b)) (hb : b.length ≤ 1400) : ∃ ob, Rw (.pr 3 ((pcsF b b.length [] 0).map pcR)) 0 ob ∧ evT X 10 [a] H = some (.sl H.length 0 (pcsF b b.length [] 0).length 0, H ++ [some ob]) := by
  obtain ⟨c, x, hx⟩ := args_pay (C := X) (f := 10) (i := 0) rfl ha (args_nil 1)
  obtain ⟨code, hc, ⟨out, ⟨ho, g, ob, h1, h2, hw⟩, hrun⟩⟩ := pieces_code (m := 0) (c := c) hb
  obtain ⟨f1, f2⟩ := pcs_flat (pcsF b b.length [] 0)
  obtain ⟨ob', q1, q2⟩ := Ev1.newR (C := X) (H := H) (evT_below X) (n := (pcsF b b.length [] 0).length) (es := 3) (l := (pcsF b b.length [] 0).map pcR) (rest := []) Try.func10 hc hx rfl (by simp [gtag]) rfl rfl rfl f1 f2 (by
    rw [par10]
    refine ⟨out, ⟨ho, 2, g, ob, ?_, h2, hw⟩, hrun⟩
    show resultsV X out.fr out.H [.tmp 2] = _
    simp [resultsV, h1])
  exact ⟨ob', q1, evT_eq q2⟩

end

end Go.Proofs.Yteblpjhkgdpchaa

/- Plain: the places of three bytes. -/
namespace Go.Proofs.Yteblpjhkgdpchaa
open Go.AM
set_option linter.unusedSimpArgs false
set_option linter.unusedVariables false

def lkR (k : List UInt8) : Pls → List Nat
  | [] => []
  | y :: M => if y.1 = k then y.2 else lkR k M
def ntR (k : List UInt8) (i : Nat) : Pls → Pls
  | [] => [(k, [i])]
  | y :: M => if y.1 = k then (k, y.2 ++ [i]) :: M else y :: ntR k i M

theorem lk_idx (k : List UInt8) : ∀ (M : Pls) (j0 : Nat), lkR k M = (match idxK k M j0 with | some j => (M.getD (j - j0) ([], [])).2 | none => [])
  | [], _ => rfl
  | y :: M, j0 => by
    unfold lkR idxK
    by_cases h : y.1 = k
    · rw [if_pos h, if_pos h]; simp
    · rw [if_neg h, if_neg h, lk_idx k M (j0 + 1)]
      cases hi : idxK k M (j0 + 1) with
      | none => rfl
      | some j =>
        have := (idxK_at hi).1
        simp only
        rw [show j - j0 = (j - (j0 + 1)) + 1 by omega]
        rfl
theorem lkM_eq (M : Pls) (k : List UInt8) : lkM M k = lkR k M := by
  rw [lk_idx k M 0]
  rfl
theorem nt_idx (k : List UInt8) (i : Nat) : ∀ (M : Pls) (j0 : Nat), ntR k i M = (match idxK k M j0 with | some j => M.set (j - j0) (k, (M.getD (j - j0) ([], [])).2 ++ [i]) | none => M ++ [(k, [i])])
  | [], _ => rfl
  | y :: M, j0 => by
    unfold ntR idxK
    by_cases h : y.1 = k
    · rw [if_pos h, if_pos h]; simp
    · rw [if_neg h, if_neg h, nt_idx k i M (j0 + 1)]
      cases hi : idxK k M (j0 + 1) with
      | none => rfl
      | some j =>
        have := (idxK_at hi).1
        simp only
        rw [show j - j0 = (j - (j0 + 1)) + 1 by omega]
        rfl
theorem ntM_eq (M : Pls) (k : List UInt8) (i : Nat) : ntM M k i = ntR k i M := by
  rw [nt_idx k i M 0]
  rfl
theorem lk_nt (k k' : List UInt8) (i : Nat) : ∀ M : Pls, lkR k' (ntR k i M) = if k' = k then lkR k M ++ [i] else lkR k' M
  | [] => by
    unfold ntR lkR
    by_cases h : k = k'
    · rw [if_pos h, if_pos h.symm]; rfl
    · rw [if_neg h, if_neg fun e => h e.symm]; rfl
  | y :: M => by
    unfold ntR
    by_cases h : y.1 = k
    · rw [if_pos h]
      by_cases h2 : k' = k
      · subst h2
        simp [lkR, h]
      · have h3 : ¬ k = k' := fun e => h2 e.symm
        have h4 : ¬ y.1 = k' := fun e => h2 (e.symm.trans h)
        simp [lkR, h2, h3, h4]
    · rw [if_neg h]
      by_cases h2 : k' = k
      · subst h2
        have := lk_nt k' k' i M
        rw [if_pos rfl] at this ⊢
        simp only [lkR, if_neg h, this]
      · have := lk_nt k k' i M
        rw [if_neg h2] at this ⊢
        simp only [lkR, this]

/-- the places below p that bear these three bytes -/
def placesB (b : List UInt8) (k : List UInt8) (p : Nat) : List Nat := (List.range p).filter fun i => decide (i + 3 ≤ b.length) && decide (key3 b i = k)

theorem up_up (b : List UInt8) (M : Pls) (p k : Nat) : ∀ n, ntUp b (ntUp b M p k) (p + k) n = ntUp b M p (k + n)
  | 0 => rfl
  | n + 1 => by
    show ntB b _ _ = ntB b _ _
    rw [up_up b M p k n, Nat.add_assoc]
    rfl

theorem lk_up (b : List UInt8) (k : List UInt8) : ∀ p, lkM (ntUp b [] 0 p) k = placesB b k p
  | 0 => rfl
  | p + 1 => by
    have ih := lk_up b k p
    rw [lkM_eq] at ih ⊢
    show lkR k (ntB b (ntUp b [] 0 p) (0 + p)) = _
    unfold placesB at ih ⊢
    rw [List.range_succ, List.filter_append, Nat.zero_add]
    unfold ntB
    by_cases h : p + 3 ≤ b.length
    · rw [if_pos h, ntM_eq, lk_nt]
      by_cases h2 : k = key3 b p
      · rw [if_pos h2, ← h2, ih]
        simp [h, ← h2]
      · have h3 : ¬ key3 b p = k := fun e => h2 e.symm
        rw [if_neg h2, ih]
        simp [h3]
    · rw [if_neg h, ih]
      simp [h]

end Go.Proofs.Yteblpjhkgdpchaa

/- Plain: no copy is longer, none as long lies nearer. -/
namespace Go.Proofs.Yteblpjhkgdpchaa
open Go.AM
set_option linter.unusedSimpArgs false
set_option linter.unusedVariables false

theorem srch_inv (b : List UInt8) (p : Nat) (hp : p ≤ 32768) : ∀ (L : List Nat) (s : Nat × Nat), s.1 ≤ 258 → (∀ x ∈ L, s.2 ≤ p - x) → L.Pairwise (· > ·) →
    s.1 ≤ (srchL b p L s).1 ∧ ((srchL b p L s).1 = s.1 → srchL b p L s = s) ∧ ∀ x ∈ L, sameB b x p 258 0 ≤ (srchL b p L s).1 ∧ (sameB b x p 258 0 = (srchL b p L s).1 → (srchL b p L s).2 ≤ p - x)
  | [], s, _, _, _ => ⟨Nat.le_refl _, fun _ => rfl, fun x hx => by cases hx⟩
  | x :: L, s, hs, hd, hpw => by
    rw [List.pairwise_cons] at hpw
    have hx258 := (sameB_le b x p 258 0 (by omega)).1
    unfold srchL
    by_cases hgo : p - x ≤ 32768 ∧ s.1 < 258
    · rw [if_pos hgo]
      by_cases hlt : s.1 < sameB b x p 258 0
      · rw [if_pos hlt]
        obtain ⟨h1, h2, h3⟩ := srch_inv b p hp L (sameB b x p 258 0, p - x) hx258 (fun y hy => by have := hpw.1 y hy; simp only; omega) hpw.2
        simp only at h1 h2
        refine ⟨by omega, fun e => by omega, ?_⟩
        intro y hy
        rcases List.mem_cons.1 hy with rfl | hy
        · refine ⟨h1, fun e => ?_⟩
          rw [h2 e.symm]
          exact Nat.le_refl _
        · exact h3 y hy
      · rw [if_neg hlt]
        obtain ⟨h1, h2, h3⟩ := srch_inv b p hp L s hs (fun y hy => hd y (List.mem_cons_of_mem _ hy)) hpw.2
        refine ⟨h1, h2, ?_⟩
        intro y hy
        rcases List.mem_cons.1 hy with rfl | hy
        · refine ⟨by omega, fun e => ?_⟩
          have : (srchL b p L s).1 = s.1 := by omega
          rw [h2 this]
          exact hd y (List.mem_cons_self ..)
        · exact h3 y hy
    · rw [if_neg hgo]
      have hs258 : s.1 = 258 := by omega
      refine ⟨Nat.le_refl _, fun _ => rfl, ?_⟩
      intro y hy
      have := (sameB_le b y p 258 0 (by omega)).1
      exact ⟨by omega, fun _ => hd y hy⟩

/-- three bytes alike -/
theorem same_three {b : List UInt8} {i p : Nat} (h : 3 ≤ sameB b i p 258 0) (hi : i < p) : p + 3 ≤ b.length ∧ i + 3 ≤ b.length ∧ key3 b i = key3 b p := by
  have step : ∀ {n f : Nat}, n < sameB b i p (f + 1) n → (n < 258 ∧ p + n < b.length ∧ b[i + n]? = b[p + n]?) ∧ sameB b i p (f + 1) n = sameB b i p f (n + 1) := by
    intro n f hn
    have e : sameB b i p (f + 1) n = if n < 258 ∧ p + n < b.length ∧ b[i + n]? = b[p + n]? then sameB b i p f (n + 1) else n := rfl
    rw [e] at hn ⊢
    by_cases hc : n < 258 ∧ p + n < b.length ∧ b[i + n]? = b[p + n]?
    · exact ⟨hc, by rw [if_pos hc]⟩
    · rw [if_neg hc] at hn
      omega
  replace h : 3 ≤ sameB b i p (257 + 1) 0 := h
  obtain ⟨a1, e1⟩ := step (n := 0) (f := 257) (by omega)
  rw [e1] at h
  replace h : 3 ≤ sameB b i p (256 + 1) 1 := h
  obtain ⟨a2, e2⟩ := step (n := 1) (f := 256) (by omega)
  rw [e2] at h
  replace h : 3 ≤ sameB b i p (255 + 1) 2 := h
  obtain ⟨a3, e3⟩ := step (n := 2) (f := 255) (by omega)
  have hp : p + 2 < b.length := a3.2.1
  have x0 : b[p]? = some b[p] := List.getElem?_eq_getElem (by omega)
  have x1 : b[p + 1]? = some b[p + 1] := List.getElem?_eq_getElem (by omega)
  have x2 : b[p + 2]? = some b[p + 2] := List.getElem?_eq_getElem (by omega)
  refine ⟨by omega, by omega, ?_⟩
  rw [key_eq x0 x1 x2, key_eq (by rw [← x0]; exact a1.2.2) (by rw [← x1]; exact a2.2.2) (by rw [← x2]; exact a3.2.2)]

/-- a place's piece: no copy from below is longer, none as long lies nearer -/
theorem piece_greedy {b : List UInt8} {p back : Nat} (hp : p ≤ 32768) (h1 : 1 ≤ back) (h2 : back ≤ p) (h3 : 3 ≤ sameB b (p - back) p 258 0) :
    sameB b (p - back) p 258 0 ≤ (pieceB b (ntUp b [] 0 p) p).len ∧ (sameB b (p - back) p 258 0 = (pieceB b (ntUp b [] 0 p) p).len → (pieceB b (ntUp b [] 0 p) p).dist ≤ back) := by
  obtain ⟨k1, k2, k3⟩ := same_three h3 (by omega)
  have hmem : p - back ∈ (placesB b (key3 b p) p).reverse := by
    rw [List.mem_reverse]
    unfold placesB
    rw [List.mem_filter]
    exact ⟨List.mem_range.2 (by omega), by simp [k2, k3]⟩
  have hpw : (placesB b (key3 b p) p).reverse.Pairwise (· > ·) := by
    rw [List.pairwise_reverse]
    unfold placesB
    exact List.Pairwise.filter _ List.pairwise_lt_range
  obtain ⟨q1, q2, q3⟩ := srch_inv b p hp _ (0, 0) (by simp) (fun x hx => by simp) hpw
  obtain ⟨q4, q5⟩ := q3 _ hmem
  have hbest : bestB b (ntUp b [] 0 p) p = srchL b p (placesB b (key3 b p) p).reverse (0, 0) := by
    unfold bestB
    rw [if_pos k1, lk_up]
  unfold pieceB
  rw [hbest]
  have hn : 3 ≤ (srchL b p (placesB b (key3 b p) p).reverse (0, 0)).1 := Nat.le_trans h3 q4
  rw [if_pos hn]
  exact ⟨q4, fun e => by have := q5 e; simp only; omega⟩

end Go.Proofs.Yteblpjhkgdpchaa

/- Structures: a writer of bits that a caller holds, and calls of its methods. -/
namespace Go.Proofs.Yteblpjhkgdpchaa
open Go.AM
set_option linter.unusedSimpArgs false
set_option linter.unusedVariables false

/-- a writer's state: the bytes, how many bits -/
structure Ws where
  k : Nat
  o : List UInt8

def wrBx (s : Ws) (vo : AV) (τ : Nat) : AM.Obj := ⟨.pc [vo, .int .i64 (s.k : Nat)], 0, some 2, 1, false, true, τ⟩

/-- bytes, as the writer holds them -/
def OuW (t : Nat) (H : AM.Heap) (oa : Option Nat) (vo : AV) (l : List UInt8) : Prop := match oa with
  | none => l = [] ∧ ∃ τ, (τ = 0 ∨ τ = t) ∧ vo = .ro 0 .pn τ
  | some a => ∃ g τ ob, (τ = 0 ∨ τ = t) ∧ vo = .sl a 0 l.length g ∧ H[a]? = some (some ob) ∧ RwT (.pb l) g τ ob

/-- a writer at o -/
structure WrV (t : Nat) (H : AM.Heap) (o : Nat) (oa : Option Nat) (s : Ws) : Prop where
  bx : ∃ vo τ, (τ = 0 ∨ τ = t) ∧ H[o]? = some (some (wrBx s vo τ)) ∧ OuW t H oa vo s.o
  ne : ∀ a, oa = some a → a ≠ o

/-- the same, described -/
def wrS (s : Ws) : Bool → List AM.Obj
  | false => [wrBx s (.ro 0 .pn 0) 0]
  | true => [wrBx s (.sl 1 0 s.o.length 0) 0, ⟨.pb s.o, 0, none, 0, true, false, 0⟩]

section
variable {t : Nat} {H : AM.Heap} {o : Nat} {oa : Option Nat} {s : Ws}

theorem wrS_ok (s : Ws) (r : Bool) : OkS (wrS s r) := by
  intro k ob0 hk x hx
  cases r
  · cases k with
    | zero =>
      obtain rfl := Option.some.inj hk
      simp [wrBx, ids, idsL] at hx
    | succ k => simp [wrS] at hk
  · match k, hk with
    | 0, hk =>
      obtain rfl := Option.some.inj hk
      simp [wrBx, ids, idsL] at hx
      subst hx
      simp [wrS]
    | 1, hk =>
      obtain rfl := Option.some.inj hk
      simp [ids] at hx
    | k + 2, hk => simp [wrS] at hk

theorem wrS_len (s : Ws) (r : Bool) : (wrS s r).length = if r then 2 else 1 := by cases r <;> rfl

theorem wrS_reach (s : Ws) (r : Bool) : reach ((wrS s r).map some) reachFuel [0] [] = List.range (wrS s r).length := by
  cases r
  · exact reach_box rfl (by simp [wrBx, ids, idsL])
  · show reach _ (99996 + 1 + 1 + 1 + 1) [0] [] = [0, 1]
    simp [wrS, wrBx, reach, ids, idsL]

theorem WrV.img (h : WrV t H o oa s) : ∃ π, Img t H π (wrS s oa.isSome) ∧ π.map Prod.fst = o :: oa.toList ∧ π[0]? = some (o, 0) := by
  obtain ⟨⟨vo, τ, hτ, h0, ho⟩, hne⟩ := h
  cases oa with
  | none =>
    obtain ⟨hl, τ2, hτ2, rfl⟩ := ho
    refine ⟨[(o, 0)], ⟨rfl, ?_, ?_⟩, rfl, rfl⟩
    · intro j k oj gj ok gk h1 h2 _
      have := ltAt h1; have := ltAt h2
      simp at *; omega
    · intro k ob0 hk
      cases k with
      | succ k => simp [wrS] at hk
      | zero =>
        obtain rfl := Option.some.inj hk
        refine ⟨o, 0, _, rfl, h0, ⟨?_, rfl, rfl, rfl, fun _ => ⟨rfl, rfl, rfl⟩, hτ, ?_⟩⟩
        · simp [wrBx, ren, renL, tz]
        · intro k hk
          simp [wrBx, tags, tagsL] at hk
          rw [hk]
          exact hτ2
  | some a =>
    obtain ⟨g, τ2, ob, hτ2, rfl, ha, hw⟩ := ho
    have hao := hne a rfl
    refine ⟨[(o, 0), (a, g)], ⟨rfl, ?_, ?_⟩, rfl, rfl⟩
    · intro j k oj gj ok gk h1 h2 e
      match j, k, h1, h2 with
      | 0, 0, _, _ => rfl
      | 1, 1, _, _ => rfl
      | 0, 1, h1, h2 => simp at h1 h2; omega
      | 1, 0, h1, h2 => simp at h1 h2; omega
      | j + 2, _, h1, _ => simp at h1
      | 0, k + 2, _, h2 => simp at h2
      | 1, k + 2, _, h2 => simp at h2
    · intro k ob0 hk
      match k, hk with
      | 0, hk =>
        obtain rfl := Option.some.inj hk
        refine ⟨o, 0, _, rfl, h0, ⟨?_, rfl, rfl, rfl, fun _ => ⟨rfl, rfl, rfl⟩, hτ, ?_⟩⟩
        · simp [wrBx, ren, renL, tz, rhoP, idN]
        · intro k hk
          simp [wrBx, tags, tagsL] at hk
      | 1, hk =>
        obtain rfl := Option.some.inj hk
        refine ⟨a, g, ob, rfl, ha, ⟨by rw [hw.p]; rfl, hw.g, hw.row, hw.ids, (fun h => by cases h), by rw [hw.tg]; exact hτ2, ?_⟩⟩
        intro k hk
        rw [hw.p] at hk
        simp [tags] at hk
      | k + 2, hk => simp [wrS] at hk

theorem WrV.of_img {π : List (Nat × Nat)} {r : Bool} (h : Img t H π (wrS s r)) (h0 : π[0]? = some (o, 0)) (hr : r = false → s.o = []) : ∃ oa, WrV t H o oa s ∧ π.map Prod.fst = o :: oa.toList ∧ oa.isSome = r ∧ (∀ a, oa = some a → ∃ g, π[1]? = some (a, g)) := by
  obtain ⟨o', g', ob, q1, q2, q3⟩ := h.ob 0 _ (by cases r <;> rfl : (wrS s r)[0]? = some (wrBx s (if r then .sl 1 0 s.o.length 0 else .ro 0 .pn 0) 0))
  rw [h0] at q1
  simp only [Option.some.injEq, Prod.mk.injEq] at q1
  obtain ⟨rfl, rfl⟩ := q1
  obtain ⟨b1, b2, _⟩ := q3.bx rfl
  obtain ⟨p, g, cap, z, row, idb, tg⟩ := ob
  have r2 := q3.gen; have r3 := q3.row; have r4 := q3.ids; have r5 := q3.tg; have r6 := q3.tp; have r1 := q3.p
  simp only [wrBx] at r1 r2 r3 r4 r5 r6 b1 b2
  subst r2 r3 r4 b1 b2
  simp only [ren, renL] at r1
  obtain ⟨l1, rfl, k1⟩ := inv_pc r1
  obtain ⟨x3, l2, rfl, e3, k2⟩ := inv_cons k1
  obtain ⟨x2, l3, rfl, e2, k3⟩ := inv_cons k2
  obtain rfl := inv_nil k3
  obtain rfl := inv_int e2
  cases r with
  | false =>
    simp only [Bool.false_eq_true, if_false, ren] at e3
    obtain ⟨τ2, rfl⟩ := inv_ro e3
    have hτ2 : τ2 = 0 ∨ τ2 = t := r6 τ2 (by simp [tags, tagsL])
    have hl := h.len
    refine ⟨none, ⟨⟨_, tg, r5, q2, hr rfl, τ2, hτ2, rfl⟩, fun a h => by cases h⟩, ?_, rfl, fun a h => by cases h⟩
    match π, hl, h0 with
    | [x], _, h0 => simp at h0; subst h0; rfl
  | true =>
    obtain ⟨a, g, ob, p1, p2, p3⟩ := h.ob 1 _ rfl
    simp only [if_true, ren, rhoP, p1] at e3
    obtain rfl := inv_sl e3
    have hl := h.len
    have hne : a ≠ o := fun e => by have := h.nd 1 0 a g o 0 p1 h0 e; omega
    have ep := p3.p
    simp only [ren] at ep
    refine ⟨some a, ⟨⟨_, tg, r5, q2, g, ob.tg, ob, p3.tg, rfl, p2, inv_pb ep, p3.gen, p3.row, p3.ids, rfl⟩, fun a' h => by cases h; exact hne⟩, ?_, rfl, fun a' h => by cases h; exact ⟨g, p1⟩⟩
    match π, hl, h0, p1 with
    | [x, y], _, h0, p1 => simp at h0 p1; subst h0 p1; rfl

/-- a call of a method -/
theorem wmeth_ev {f n : Nat} {fn : Func} {code : Code} {xs ys : List AV} {Q : Ws → List AV → Bool → Prop} (hF : X.P.funcs[f]? = some fn) (hb : fn.body = some code) (hrw : X.rw f 0 = false) (h : WrV t H o oa s)
    (hA : ∀ π K, π.map Prod.fst = o :: oa.toList → ArgI X f H π K 1 xs ys) (hi : idsL ys = []) (hn : xs.length + 2 = n) (hng : n < gtag)
    (run : ∀ m E, WrV n E 0 (oa.map fun _ => 1) s → Tells (EndsP fun fr E' => ∃ s' oa' l, resultsV X fr E' fn.results.toList = some l ∧ idsL l = [] ∧ tagsL l = [] ∧ noTups l = true ∧ WrV n E' 0 oa' s' ∧ (oa ≠ none → oa' = some 1) ∧ Q s' l oa'.isSome)
      X (evT X) f m code (numbered 0 (coerce X (.ptr 0 0 0 0 :: ys) (paramsOf X f))) E) :
    ∃ H' oa' s' l, evT X f (.ptr o 0 0 0 :: xs) H = some (resultV l, H') ∧ WrV t H' o oa' s' ∧ Q s' l oa'.isSome ∧ H.length ≤ H'.length ∧ (∀ a, oa = some a → oa' = some a) ∧ (∀ a, oa = none → oa' = some a → H.length ≤ a) ∧
      (∀ j, j < H.length → j ≠ o → (∀ a, oa = some a → j ≠ a) → H'[j]? = H[j]?) := by
  obtain ⟨π, hI, hπ, hπ0⟩ := h.img
  have hK : 0 < (wrS s oa.isSome).length := by rw [wrS_len]; split <;> omega
  have hA' := (hA π (wrS s oa.isSome).length hπ)
  have hA2 : ArgI X f H π (wrS s oa.isSome).length 0 (.ptr o 0 0 0 :: xs) (.ptr 0 0 0 0 :: ys) := ArgI.ptr hI hrw hπ0 hK hA'
  have hoa : oa.isSome = false → s.o = [] := by
    intro h1
    cases oa with
    | some a => cases h1
    | none => obtain ⟨⟨vo, τ, _, _, ho⟩, _⟩ := h; exact ho.1
  obtain ⟨π'', S', v0, H', τf, hE, hτf, hI', hok', hid, ⟨s', l, r', hS', hv0, hr', hQ, hil⟩, hlen, hfix, hnew, hrest⟩ := Ev1.img (C := X) (T := evT X) (f := f) (H := H) (n := n) (ys := .ptr 0 0 0 0 :: ys) (Q := fun S' v0 => ∃ s' l r', S' = wrS s' r' ∧ v0 = resultV l ∧ (r' = false → s'.o = []) ∧ Q s' l r' ∧ idsL l = [] ∧ tagsL l = [] ∧ noTups l = true ∧ (oa.isSome = true → r' = true)) (evT_below X) hF hb hI (wrS_ok s _) hA2
    (by rw [show idsL (AV.ptr 0 0 0 0 :: ys) = [0] by simp [idsL, ids, hi]]; exact wrS_reach s _) (by simp; omega) hng (by
      intro E hEl hEI
      obtain ⟨oa1, hV, hπ1, hs1, hat1⟩ := WrV.of_img hEI (by rw [pi0_at, if_pos hK]) hoa
      have hoa1 : oa1 = oa.map fun _ => 1 := by
        cases oa with
        | none => cases oa1 with
          | none => rfl
          | some a => cases hs1
        | some a => cases oa1 with
          | none => cases hs1
          | some a1 =>
            obtain ⟨g, hg⟩ := hat1 a1 rfl
            rw [pi0_at] at hg
            simp [wrS_len] at hg
            rw [Option.map_some, ← hg.1]
      rw [hoa1] at hV
      obtain ⟨out, hout, hrun⟩ := run (wrS s oa.isSome).length E hV
      refine ⟨out, ⟨hout.1, ?_⟩, hrun⟩
      obtain ⟨s', oa', l, hr, hil, htl, hnt, hV', ho', hQ⟩ := hout.2
      obtain ⟨π', hI', hπ', hπ0'⟩ := hV'.img
      have hoa' : oa'.isSome = false → s'.o = [] := by
        intro h1
        cases oa' with
        | some a => cases h1
        | none => obtain ⟨⟨vo, τ, _, _, ho⟩, _⟩ := hV'; exact ho.1
      refine Leaves.plain hr hil htl hnt hI' (wrS_ok s' _) ?_ ?_ ?_ ?_ ⟨s', l, _, rfl, rfl, hoa', hQ, hil, htl, hnt, ?_⟩
      · rw [wrS_len, wrS_len]
        cases oa with
        | none => cases oa'.isSome <;> simp
        | some a => rw [ho' (by simp)]; simp
      · intro k hk
        cases oa with
        | none =>
          rw [wrS_len] at hk
          simp at hk
          subst hk
          exact ⟨0, hπ0'⟩
        | some a =>
          rw [wrS_len] at hk
          simp at hk
          have : k = 0 ∨ k = 1 := by omega
          rcases this with rfl | rfl
          · exact ⟨0, hπ0'⟩
          · rw [ho' (by simp)] at hπ'
            have h1 : (π'.map Prod.fst)[1]? = some 1 := by rw [hπ']; rfl
            rw [List.getElem?_map] at h1
            cases hp : π'[1]? with
            | none => rw [hp] at h1; cases h1
            | some x =>
              rw [hp] at h1
              simp at h1
              exact ⟨x.2, by rw [← h1]⟩
      · intro k ob ob' h1 h2
        cases hx : oa.isSome <;> cases hy : oa'.isSome <;> rw [hx] at h1 <;> rw [hy] at h2
        all_goals
          match k, h1, h2 with
          | 0, h1, h2 =>
            have e1 := Option.some.inj h1
            have e2 := Option.some.inj h2
            subst e1 e2; rfl
          | 1, h1, h2 => first | (simp [wrS] at h1; done) | (simp [wrS] at h2; done) | (
            have e1 := Option.some.inj h1
            have e2 := Option.some.inj h2
            subst e1 e2; rfl)
          | k + 2, h1, h2 => simp [wrS] at h1
      · intro k hk1 hk2
        cases hx : oa.isSome <;> cases hy : oa'.isSome <;> rw [hx, wrS_len] at hk1 <;> rw [hy, wrS_len] at hk2 <;> simp at hk1 hk2
        all_goals first | omega | skip
        have : k = 1 := by omega
        subst this
        rw [show List.range (wrS s false).length = [0] from rfl, wrS_reach]
        rw [wrS_len]; simp
      · intro h1
        cases oa with
        | none => cases h1
        | some a => rw [ho' (by simp)]; rfl)
  subst hS' hv0
  obtain ⟨g0, hg0⟩ := hfix 0 o 0 hπ0
  have hg00 : g0 = 0 := by
    obtain ⟨o', g', ob, q1, q2, q3⟩ := hI'.ob 0 _ (by cases r' <;> rfl : (wrS s' r')[0]? = some (wrBx s' (if r' then .sl 1 0 s'.o.length 0 else .ro 0 .pn 0) 0))
    rw [hg0] at q1
    simp only [Option.some.injEq, Prod.mk.injEq] at q1
    obtain ⟨_, rfl⟩ := q1
    exact (q3.bx rfl).2.2
  subst hg00
  obtain ⟨oa', hV', hπ'', hs', hat'⟩ := WrV.of_img hI' hg0 hr'
  obtain ⟨hil, htl, hnt, hmono⟩ := hil
  rw [ren_flat (resultV l) (by rw [ids_result hnt]; exact hil) (fun k hk => by rw [tags_result hnt, htl] at hk; cases hk)] at hE
  refine ⟨H', oa', s', l, evT_eq hE, hV', by rw [hs']; exact hQ, hlen, ?_, ?_, ?_⟩
  · intro a ha
    subst ha
    cases oa' with
    | none =>
      have := hmono rfl
      rw [this] at hs'; cases hs'
    | some a' =>
      obtain ⟨g, hg⟩ := hat' a' rfl
      have h1 : (π.map Prod.fst)[1]? = some a := by rw [hπ]; rfl
      rw [List.getElem?_map] at h1
      cases hp : π[1]? with
      | none => rw [hp] at h1; cases h1
      | some x =>
        rw [hp] at h1
        simp at h1
        obtain ⟨g2, hg2⟩ := hfix 1 x.1 x.2 hp
        rw [hg] at hg2
        simp at hg2
        rw [hg2.1, h1]
  · intro a ha ha'
    subst ha ha'
    obtain ⟨g, hg⟩ := hat' a rfl
    exact hnew 1 a g (by rw [wrS_len]; simp) hg
  · intro j hj hjo hja
    refine hrest j hj ?_
    intro k x g hk e
    have h1 : x ∈ π.map Prod.fst := List.mem_map.2 ⟨(x, g), List.mem_of_getElem? hk, rfl⟩
    rw [hπ] at h1
    rcases List.mem_cons.1 h1 with h1 | h1
    · exact hjo (e.trans h1)
    · cases oa with
      | none => simp at h1
      | some a =>
        simp at h1
        exact hja a rfl (e.trans h1)

end

end Go.Proofs.Yteblpjhkgdpchaa

/- Walks: a writer of bits: a bit. -/
namespace Go.Proofs.Yteblpjhkgdpchaa
open Go.AM
set_option linter.unusedSimpArgs false
set_option linter.unusedVariables false

theorem wand1 (x : Int) : IntKind.i64.wrap ((AM.bits .i64 x &&& AM.bits .i64 1).toNat : Nat) = ((x % 2).toNat : Nat) := by
  have h1 : (AM.bits .i64 1).toNat = 1 := by decide
  have h2 : (AM.bits .i64 x).toNat % 2 = (x % 2).toNat := by
    unfold AM.bits
    rw [BitVec.toNat_ofInt]
    show (x % 18446744073709551616).toNat % 2 = _
    omega
  rw [BitVec.toNat_and, h1, Nat.and_one_is_mod, h2, wrap_i64 (by omega) (by omega)]
theorem wbits8 {v : Nat} (h : v < 256) : (AM.bits .u8 (v : Int)).toNat = v := by
  unfold AM.bits
  rw [BitVec.toNat_ofInt]
  show ((v : Int) % 256).toNat = v
  omega
theorem wu8 {v : Nat} (h : v < 256) : IntKind.u8.wrap (v : Int) = (v : Int) := by
  show (v : Int) % 256 = v
  omega
theorem wshl {u k : Nat} (hu : u < 2) (hk : k < 8) : u * 2 ^ k < 256 := by
  have h1 : 2 ^ k ≤ 2 ^ 7 := Nat.pow_le_pow_right (by omega) (by omega)
  have : u * 2 ^ k ≤ 1 * 2 ^ 7 := Nat.mul_le_mul (by omega) h1
  omega

/-- a bit of a byte -/
def orB (y : UInt8) (x : Int) (k : Nat) : UInt8 := UInt8.ofNat (y.toNat ||| (x % 2).toNat * 2 ^ k)
/-- a bit written -/
def bitW (s : Ws) (x : Int) : Ws := ⟨s.k + 1, (if s.k % 8 = 0 then s.o ++ [0] else s.o).set (s.k / 8) (orB ((if s.k % 8 = 0 then s.o ++ [0] else s.o).getD (s.k / 8) 0) x (s.k % 8))⟩

section
variable {t : Nat} {H : AM.Heap} {o : Nat} {oa : Option Nat} {s : Ws}

set_option maxRecDepth 100000 in
theorem wb_r2 {m a g τ τ2 : Nat} {x : Int} {ob : AM.Obj} {E : AM.Heap} {y : UInt8} {tl : AM.Frame} (h0 : E[0]? = some (some (wrBx s (.sl a 0 s.o.length g) τ))) (ha : E[a]? = some (some ob)) (hw : RwT (.pb s.o) g τ2 ob) (hk : s.k / 8 < s.o.length) (hy : s.o[s.k / 8]? = some y) (hl : s.k ≤ 10000000) :
    ∃ ob', RwT (.pb (s.o.set (s.k / 8) (orB y x (s.k % 8)))) g τ2 ob' ∧ ∃ code, ((Try.f35.body).bind (codeAt [1, 0])) = some code ∧ Run X (evT X) 35 m code ((0, .ptr 0 0 0 0) :: (1, .int .i64 x) :: tl) E ⟨.normal, [(0, .ptr 0 0 0 0)], upd E a (some ob')⟩ := by
  have q1 := hw.p; have q2 := hw.g; have q4 := hw.ids; have q5 := hw.tg
  simp only [wrBx] at h0
  have w2 : ((s.k : Nat) : Int).tdiv 8 = ((s.k / 8 : Nat) : Int) := by rw [Int.tdiv_eq_ediv_of_nonneg (by omega)]; omega
  have w2' : ((s.k : Nat) : Int) / 8 = ((s.k / 8 : Nat) : Int) := by omega
  have w3 : ((s.k : Nat) : Int).tmod 8 = ((s.k % 8 : Nat) : Int) := by rw [Int.tmod_eq_emod_of_nonneg (by omega)]; omega
  have w3' : ((s.k : Nat) : Int) % 8 = ((s.k % 8 : Nat) : Int) := by omega
  have w4 : IntKind.i64.wrap ((s.k / 8 : Nat) : Int) = ((s.k / 8 : Nat) : Int) := wrap_i64 (by omega) (by omega)
  have w5 : IntKind.i64.wrap ((s.k % 8 : Nat) : Int) = ((s.k % 8 : Nat) : Int) := wrap_i64 (by omega) (by omega)
  have hkI : ((s.k / 8 : Nat) : Int) < (s.o.length : Int) := by omega
  have hkr : s.k % 8 < 8 := Nat.mod_lt _ (by omega)
  have hx2 : (x % 2).toNat < 2 := by omega
  have hy2 := y.toNat_lt
  have hsh := wshl hx2 hkr
  have hor : y.toNat ||| (x % 2).toNat * 2 ^ (s.k % 8) < 256 := Nat.or_lt_two_pow (n := 8) hy2 hsh
  have f1 : ¬ ((s.k % 8 : Nat) : Int) < 0 := by omega
  have f2 : IntKind.u8.wrap (IntKind.u8.wrap (IntKind.i64.wrap ((AM.bits .i64 x &&& AM.bits .i64 1).toNat : Nat)) * 2 ^ min (s.k % 8) 8) = (((x % 2).toNat * 2 ^ (s.k % 8) : Nat) : Int) := by
    rw [wand1, wu8 (by omega), Nat.min_eq_left (by omega)]
    have e : (((x % 2).toNat : Nat) : Int) * 2 ^ (s.k % 8) = (((x % 2).toNat * 2 ^ (s.k % 8) : Nat) : Int) := by push_cast; rfl
    rw [e, wu8 hsh]
  have f3 : IntKind.u8.wrap ((AM.bits .u8 ((y.toNat : Nat) : Int) ||| AM.bits .u8 (((x % 2).toNat * 2 ^ (s.k % 8) : Nat) : Int)).toNat : Nat) = ((y.toNat ||| (x % 2).toNat * 2 ^ (s.k % 8) : Nat) : Int) := by
    rw [BitVec.toNat_or, wbits8 hy2, wbits8 hsh, wu8 hor]
  have hwI : ((y.toNat ||| (x % 2).toNat * 2 ^ (s.k % 8) : Nat) : Int) < 256 := by omega
  refine ⟨{ ob with p := .pb (s.o.set (s.k / 8) (orB y x (s.k % 8))) }, ⟨rfl, hw.g, hw.row, hw.ids, hw.tg⟩, _, rfl, ?_⟩
  unfold orB
  generalize (x % 2).toNat * 2 ^ (s.k % 8) = sh at *
  generalize y.toNat ||| sh = wv at *
  generalize s.k / 8 = kd at *
  generalize s.k % 8 = kr at *
  generalize hN : s.o.length = N at *
  generalize s.o = B at *
  have hτ : (if τ2 = 0 then some 0 else some τ2) = some τ2 := by
    split
    · rename_i h; rw [h]
    · rfl
  simp only [go_sem] at f2 f3
  refine ⟨0, ?_⟩
  simp (maxSteps := 2000000) -implicitDefEqProofs [-getElem?_pos, List.getElem?_cons_zero, List.getElem?_cons_succ, go_sem, eqV, plen, loadV, storeV, retag, h0, ha, q1, q2, q4, q5, w2, w2', w3, w3', w4, w5, hk, hkI, hy, hN, f1, f2, f3, hwI, hτ]

end

end Go.Proofs.Yteblpjhkgdpchaa

/- Walks, events: a writer of bits: a bit. -/
namespace Go.Proofs.Yteblpjhkgdpchaa
open Go.AM
set_option linter.unusedSimpArgs false
set_option linter.unusedVariables false


/-- what a call of a method leaves alone -/
structure Kpw (H H' : AM.Heap) (o : Nat) (oa oa' : Option Nat) : Prop where
  len : H.length ≤ H'.length
  same : ∀ a, oa = some a → oa' = some a
  new : ∀ a, oa = none → oa' = some a → H.length ≤ a
  rest : ∀ j, j < H.length → j ≠ o → (∀ a, oa = some a → j ≠ a) → H'[j]? = H[j]?

theorem Kpw.refl (H : AM.Heap) (o : Nat) (oa : Option Nat) : Kpw H H o oa oa := ⟨Nat.le_refl _, fun _ h => h, fun a h h2 => (by rw [h] at h2; cases h2), fun _ _ _ _ => rfl⟩
theorem Kpw.trans {H H1 H2 : AM.Heap} {o : Nat} {oa oa1 oa2 : Option Nat} (h : Kpw H H1 o oa oa1) (h2 : Kpw H1 H2 o oa1 oa2) : Kpw H H2 o oa oa2 where
  len := Nat.le_trans h.len h2.len
  same := fun a ha => h2.same a (h.same a ha)
  new := by
    intro a ha ha2
    cases h1 : oa1 with
    | none => exact Nat.le_trans h.len (h2.new a h1 ha2)
    | some x =>
      have := h2.same x h1
      rw [ha2] at this
      cases this
      exact h.new a ha h1
  rest := by
    intro j hj hjo hja
    rw [h2.rest j (Nat.lt_of_lt_of_le hj h.len) hjo ?_, h.rest j hj hjo hja]
    intro a ha
    cases h1 : oa with
    | none => have := h.new a h1 ha; omega
    | some x =>
      have := h.same x h1
      rw [ha] at this
      cases this
      exact hja a h1
theorem Kpw.upd {H : AM.Heap} {o : Nat} {oa : Option Nat} (x : Option AM.Obj) : Kpw H (AM.upd H o x) o oa oa where
  len := by simp [AM.upd]
  same := fun _ h => h
  new := fun a h h2 => by rw [h] at h2; cases h2
  rest := fun j hj hjo _ => by unfold AM.upd; rw [List.getElem?_set_ne (Ne.symm hjo)]
theorem Kpw.cat {H : AM.Heap} {o : Nat} {oa : Option Nat} (r : AM.Heap) : Kpw H (H ++ r) o oa oa where
  len := by simp
  same := fun _ h => h
  new := fun a h h2 => by rw [h] at h2; cases h2
  rest := fun j hj hjo _ => List.getElem?_append_left hj

section
variable {t : Nat} {H : AM.Heap} {o : Nat} {oa : Option Nat} {s : Ws}

theorem OuW.upd {vo : AV} {l : List UInt8} {x : Option AM.Obj} (h : OuW t H oa vo l) (hne : ∀ a, oa = some a → a ≠ o) : OuW t (AM.upd H o x) oa vo l := by
  cases oa with
  | none => exact h
  | some a =>
    obtain ⟨g, τ, ob, h1, h2, h3, h4⟩ := h
    exact ⟨g, τ, ob, h1, h2, neAt h3 (Ne.symm (hne a rfl)), h4⟩

/-- the reader's cells changed -/
theorem WrV.set {s' : Ws} {vo : AV} {τ : Nat} (hne : ∀ a, oa = some a → a ≠ o) (h2 : τ = 0 ∨ τ = t) (ho : o < H.length) (hv : OuW t H oa vo s'.o) : WrV t (AM.upd H o (some (wrBx s' vo τ))) o oa s' :=
  ⟨⟨vo, τ, h2, by unfold AM.upd; rw [List.getElem?_set_self ho], hv.upd hne⟩, hne⟩

theorem WrV.lt (h : WrV t H o oa s) : o < H.length ∧ ∀ a, oa = some a → a < H.length := by
  obtain ⟨⟨vo, τ, _, h0, ho⟩, _⟩ := h
  refine ⟨ltAt h0, fun a ha => ?_⟩
  subst ha
  obtain ⟨g, τ, ob, _, _, h3, _⟩ := ho
  exact ltAt h3

/-- what lies elsewhere does not matter -/
theorem WrV.keep {H' : AM.Heap} (h : WrV t H o oa s) (h1 : H'[o]? = H[o]?) (h2 : ∀ a, oa = some a → H'[a]? = H[a]?) : WrV t H' o oa s := by
  obtain ⟨⟨vo, τ, a1, h0, ho⟩, hne⟩ := h
  refine ⟨⟨vo, τ, a1, by rw [h1]; exact h0, ?_⟩, hne⟩
  cases oa with
  | none => exact ho
  | some a =>
    obtain ⟨g, τ, ob, b1, b2, b3, b4⟩ := ho
    exact ⟨g, τ, ob, b1, b2, by rw [h2 a rfl]; exact b3, b4⟩
theorem WrV.cat {r : AM.Heap} (h : WrV t H o oa s) : WrV t (H ++ r) o oa s := h.keep (List.getElem?_append_left h.lt.1) fun a ha => List.getElem?_append_left (h.lt.2 a ha)
theorem WrV.other {j : Nat} {x : Option AM.Obj} (h : WrV t H o oa s) (h1 : j ≠ o) (h2 : ∀ a, oa = some a → j ≠ a) : WrV t (AM.upd H j x) o oa s :=
  h.keep (by unfold AM.upd; rw [List.getElem?_set_ne h1]) fun a ha => by unfold AM.upd; rw [List.getElem?_set_ne (h2 a ha)]

theorem bsW (H : AM.Heap) (y : UInt8) : buildSliceV X H 28 1 [(0, .int .u8 (y.toNat : Nat))] = some (.ro 1 (.pb [y]) 0, H) := by
  have := y.toNat_lt
  have h1 : (y.toNat : Int) < 256 := by omega
  simp [buildSliceV, setParts, litRow, mkRow, asBytes, cellsAV, cellsOf, scalars, scalar, idsL, ids, tagsL, tags, joinTags, h1]

/-- a byte appended to what was told -/
theorem OuW.app {vo : AV} {l : List UInt8} (y : UInt8) (h : OuW t H oa vo l) (hH : 0 < H.length) (hne : ∀ a, oa = some a → a ≠ 0) (hl : l.length ≤ 10000000) : ∃ v' H' oa', appendV X H 28 vo (.ro 1 (.pb [y]) 0) = some (v', H') ∧ OuW t H' oa' v' (l ++ [y]) ∧ Kpw H H' 0 oa oa' ∧ H'[0]? = H[0]? ∧ (∀ a, oa' = some a → a ≠ 0) := by
  cases oa with
  | none =>
    obtain ⟨rfl, τ, hτ, rfl⟩ := h
    have hat : (H ++ [some (⟨.pb [y], 0, none, 0, true, false, 0⟩ : AM.Obj)])[H.length]? = some (some ⟨.pb [y], 0, none, 0, true, false, 0⟩) := by simp
    refine ⟨.sl H.length 0 1 0, H ++ [some ⟨.pb [y], 0, none, 0, true, false, 0⟩], some H.length, ?_, ⟨0, 0, _, .inl rfl, rfl, hat, ⟨rfl, rfl, rfl, rfl, rfl⟩⟩, ⟨by simp, fun a h => (by cases h), fun a _ h => (by cases h; exact Nat.le_refl _), fun j hj _ _ => List.getElem?_append_left hj⟩, List.getElem?_append_left hH, fun a h => by cases h; omega⟩
    simp only [appendV, und28, size5, zok5]
    simp [srcV, payB, plen, ptag, roomOk, papp, emptyRow, pesz]
  | some a =>
    obtain ⟨g, τ, ob, hτ, rfl, ho, hw⟩ := h
    obtain ⟨ob', w1, w2⟩ := app_rwt (C := X) (T := 28) (e := 5) (src := .ro 1 (.pb [y]) 0) (m := [y]) und28 und5 size5 bytes5 zok5 ho hw (.inl (by simp [srcV, payB, ptag])) (by simp; omega)
    refine ⟨_, _, some a, w2, ⟨g + 1, τ, ob', hτ, by simp, setAt ho, w1⟩, ⟨by simp [AM.upd], fun a' h => h, fun a' h => (by cases h), fun j hj h0 hja => by unfold AM.upd; rw [List.getElem?_set_ne (Ne.symm (hja a rfl))]⟩, by unfold AM.upd; rw [List.getElem?_set_ne (hne a rfl)], hne⟩


def WsOk (s : Ws) : Prop := s.o.length = (s.k + 7) / 8
theorem bitW_ok {x : Int} (h : WsOk s) : WsOk (bitW s x) := by
  unfold WsOk bitW at *
  rw [List.length_set]
  simp only
  split
  · rw [List.length_append, List.length_singleton]; omega
  · omega

set_option maxRecDepth 100000 in
theorem wb_r0 {m : Nat} {x : Int} {E : AM.Heap} (h : WrV t E 0 oa s) (hl : s.k ≤ 10000000) : ∃ code, ((Try.f35.body).bind (codeAt [0, 0])) = some code ∧ Run X (evT X) 35 m code [(0, .ptr 0 0 0 0), (1, .int .i64 x)] E ⟨.normal, [(0, .ptr 0 0 0 0), (1, .int .i64 x), (9, .bool (decide (s.k % 8 = 0)))], E⟩ := by
  refine ⟨_, rfl, ?_⟩
  obtain ⟨⟨vo, τ, a1, h0, ho⟩, hne⟩ := id h
  simp only [wrBx] at h0
  have w3 : ((s.k : Nat) : Int).tmod 8 = ((s.k % 8 : Nat) : Int) := by rw [Int.tmod_eq_emod_of_nonneg (by omega)]; omega
  have w3' : ((s.k : Nat) : Int) % 8 = ((s.k % 8 : Nat) : Int) := by omega
  have w5 : IntKind.i64.wrap ((s.k % 8 : Nat) : Int) = ((s.k % 8 : Nat) : Int) := wrap_i64 (by omega) (by omega)
  by_cases hz : s.k % 8 = 0
  · rw [decide_eq_true hz]
    rw [hz] at w3 w3' w5
    (refine ⟨0, ?_⟩; simp (maxSteps := 2000000) -implicitDefEqProofs [-getElem?_pos, List.getElem?_cons_zero, List.getElem?_cons_succ, go_sem, eqV, plen, loadV, storeV, h0, w3, w3', w5])
  · have hzI : ¬ ((s.k % 8 : Nat) : Int) = 0 := by omega
    have hzb : (((s.k % 8 : Nat) : Int) == 0) = false := by simpa using hzI
    rw [decide_eq_false hz]
    generalize s.k % 8 = kr at *
    (refine ⟨0, ?_⟩; simp (maxSteps := 2000000) -implicitDefEqProofs [-getElem?_pos, List.getElem?_cons_zero, List.getElem?_cons_succ, go_sem, eqV, plen, loadV, storeV, h0, w3, w3', w5, hz, hzI, hzb])

set_option maxRecDepth 100000 in
theorem wb_r1 {m : Nat} {x : Int} {d : Bool} {E : AM.Heap} (h : WrV t E 0 oa s) (hl : s.o.length ≤ 10000000) : ∃ E' oa', WrV t E' 0 oa' ⟨s.k, s.o ++ [0]⟩ ∧ Kpw E E' 0 oa oa' ∧ ∃ code, ((Try.f35.body).bind (codeAt [0, 1, 0])) = some code ∧ Run X (evT X) 35 m code [(0, .ptr 0 0 0 0), (1, .int .i64 x), (9, .bool d)] E ⟨.normal, [(0, .ptr 0 0 0 0), (1, .int .i64 x)], E'⟩ := by
  obtain ⟨⟨vo, τ, a1, h0, ho⟩, hne⟩ := id h
  obtain ⟨v', E', oa', hA, hv', hk, hE0, hne'⟩ := ho.app 0 h.lt.1 hne hl
  have h0' : E'[0]? = some (some (wrBx s vo τ)) := by rw [hE0]; exact h0
  have hbs := bsW E 0
  refine ⟨AM.upd E' 0 (some (wrBx ⟨s.k, s.o ++ [0]⟩ v' τ)), oa', WrV.set hne' a1 (ltAt h0') hv', hk.trans (Kpw.upd _), _, rfl, ?_⟩
  simp only [wrBx] at h0 h0' ⊢
  simp only [show ((0 : UInt8).toNat : Int) = 0 from rfl] at hbs
  cases oa' with
  | none => exact absurd hv'.1 (by simp)
  | some a =>
    obtain ⟨g, τ2, ob, _, rfl, _⟩ := hv'
    generalize (s.o ++ [0]).length = N at *
    (refine ⟨0, ?_⟩; simp (maxSteps := 2000000) -implicitDefEqProofs [-getElem?_pos, List.getElem?_cons_zero, List.getElem?_cons_succ, go_sem, eqV, plen, loadV, storeV, h0, h0', hbs, hA])

set_option maxRecDepth 100000 in
theorem wb_r3 {m : Nat} {E : AM.Heap} (h : WrV t E 0 oa s) (hl : s.k ≤ 10000000) : ∃ E', WrV t E' 0 oa ⟨s.k + 1, s.o⟩ ∧ Kpw E E' 0 oa oa ∧ ∃ code, ((Try.f35.body).bind (codeAt [1, 1])) = some code ∧ Run X (evT X) 35 m code [(0, .ptr 0 0 0 0)] E ⟨.normal, [], E'⟩ := by
  obtain ⟨⟨vo, τ, a1, h0, ho⟩, hne⟩ := id h
  refine ⟨AM.upd E 0 (some (wrBx ⟨s.k + 1, s.o⟩ vo τ)), WrV.set hne a1 (ltAt h0) ho, Kpw.upd _, _, rfl, ?_⟩
  have w1 : IntKind.i64.wrap ((s.k : Int) + 1) = ((s.k + 1 : Nat) : Int) := by rw [wrap_i64 (by omega) (by omega)]; omega
  simp only [wrBx] at h0 ⊢
  generalize s.k + 1 = k1 at *
  (refine ⟨0, ?_⟩; simp (maxSteps := 2000000) -implicitDefEqProofs [-getElem?_pos, List.getElem?_cons_zero, List.getElem?_cons_succ, go_sem, eqV, plen, loadV, storeV, h0, w1])

set_option maxRecDepth 100000 in
theorem bit_code {m : Nat} {x : Int} {E : AM.Heap} (h : WrV t E 0 oa s) (hs : WsOk s) (hl : s.k ≤ 9000000) : ∃ code, Try.f35.body = some code ∧
    Tells (EndsP fun fr E' => ∃ oa', WrV t E' 0 oa' (bitW s x) ∧ Kpw E E' 0 oa oa') X (evT X) 35 m code [(0, .ptr 0 0 0 0), (1, .int .i64 x)] E := by
  refine ⟨_, rfl, ?_⟩
  have hso := hs
  unfold WsOk at hso
  apply Tells.assoc
  apply Tells.seq (piece (wb_r0 h (by omega)) _ rfl)
  -- the byte
  have key : ∀ {E1 : AM.Heap} {oa1 : Option Nat} {tl : AM.Frame}, WrV t E1 0 oa1 ⟨s.k, if s.k % 8 = 0 then s.o ++ [0] else s.o⟩ → Kpw E E1 0 oa oa1 → ∃ code, ((Try.f35.body).bind (codeAt [1])) = some code ∧ Tells (EndsP fun fr E' => ∃ oa', WrV t E' 0 oa' (bitW s x) ∧ Kpw E E' 0 oa oa') X (evT X) 35 m code ((0, .ptr 0 0 0 0) :: (1, .int .i64 x) :: tl) E1 := by
    intro E1 oa1 tl hV hk
    refine ⟨_, rfl, ?_⟩
    have hB : s.k / 8 < (if s.k % 8 = 0 then s.o ++ [0] else s.o).length := by
      split
      · rw [List.length_append, List.length_singleton]; omega
      · omega
    have hg : (if s.k % 8 = 0 then s.o ++ [0] else s.o).getD (s.k / 8) 0 = (if s.k % 8 = 0 then s.o ++ [0] else s.o)[s.k / 8] := by
      rw [List.getD_eq_getElem?_getD, List.getElem?_eq_getElem hB]; rfl
    have hbw : bitW s x = ⟨s.k + 1, (if s.k % 8 = 0 then s.o ++ [0] else s.o).set (s.k / 8) (orB ((if s.k % 8 = 0 then s.o ++ [0] else s.o)[s.k / 8]) x (s.k % 8))⟩ := by
      unfold bitW
      rw [hg]
    rw [hbw]
    generalize (if s.k % 8 = 0 then s.o ++ [0] else s.o) = B at *
    obtain ⟨⟨vo, τ, a1, h0, ho⟩, hne⟩ := id hV
    cases oa1 with
    | none =>
      have := ho.1
      simp only at this
      subst this
      simp at hB
    | some a =>
      obtain ⟨g, τ2, ob, hτ2, rfl, h3, h4⟩ := ho
      obtain ⟨ob', w1, hr2⟩ := wb_r2 (m := m) (s := ⟨s.k, B⟩) (x := x) (tl := tl) (y := B[s.k / 8]) h0 h3 h4 hB (List.getElem?_eq_getElem hB) (by simp only; omega)
      have hV2 : WrV t (upd E1 a (some ob')) 0 (some a) ⟨s.k, B.set (s.k / 8) (orB (B[s.k / 8]) x (s.k % 8))⟩ :=
        ⟨⟨_, τ, a1, neAt h0 (hne a rfl), g, τ2, ob', hτ2, by simp, setAt h3, w1⟩, hne⟩
      obtain ⟨E3, hV3, hk3, hr3⟩ := wb_r3 (m := m) hV2 (by simp only; omega)
      have hk2 : Kpw E (upd E1 a (some ob')) 0 oa (some a) := by
        refine ⟨by have := hk.len; simpa [AM.upd] using this, hk.same, hk.new, ?_⟩
        intro j hj h1 h2
        have hja : j ≠ a := by
          intro e
          subst e
          cases hq : oa with
          | none => have := hk.new j hq rfl; omega
          | some z => have := hk.same z hq; cases this; exact h2 _ hq rfl
        unfold AM.upd
        rw [List.getElem?_set_ne (Ne.symm hja)]
        exact hk.rest j hj h1 h2
      refine Tells.of (o := ⟨.normal, [], E3⟩) ?_ ⟨.inl rfl, _, hV3, hk2.trans hk3⟩
      exact Run.seq (piece hr2 _ rfl) (piece hr3 _ rfl)
  by_cases hz : s.k % 8 = 0
  · obtain ⟨E1, oa1, hV1, hk1, hr1⟩ := wb_r1 (m := m) (x := x) (d := decide (s.k % 8 = 0)) h (by omega)
    apply Tells.seq (fr' := [(0, .ptr 0 0 0 0), (1, .int .i64 x)]) (H' := E1)
    · refine Run.cond (d := true) (by simp [evalO, getF, hz]) ?_
      exact piece hr1 _ rfl
    refine piece (key (tl := []) ?_ hk1) _ rfl
    rw [if_pos hz]
    exact hV1
  · apply Tells.seq (fr' := [(0, .ptr 0 0 0 0), (1, .int .i64 x), (9, .bool (decide (s.k % 8 = 0)))]) (H' := E)
    · exact Run.cond (d := false) (by simp [evalO, getF, hz]) ⟨0, rfl⟩
    refine piece (key ?_ (Kpw.refl E 0 oa)) _ rfl
    rw [if_neg hz]
    exact h

theorem bit_ev {x : Int} (h : WrV t H o oa s) (hs : WsOk s) (hl : s.k ≤ 9000000) : ∃ H' oa', evT X 35 [.ptr o 0 0 0, .int .i64 x] H = some (.tup [], H') ∧ WrV t H' o oa' (bitW s x) ∧ Kpw H H' o oa oa' := by
  obtain ⟨code, hc⟩ : ∃ code, Try.f35.body = some code := ⟨_, rfl⟩
  obtain ⟨H', oa', s', l, hE, hV, ⟨rfl, rfl⟩, h1, h2, h3, h4⟩ := wmeth_ev (f := 35) (n := 3) (xs := [.int .i64 x]) (ys := [.int .i64 x]) (Q := fun s' l r => s' = bitW s x ∧ l = []) Try.func35 hc rfl h (fun π K _ => ArgI.flat rfl rfl ArgI.nil) rfl rfl (by simp [gtag]) (by
    intro m E hE
    obtain ⟨code2, hc2, ht⟩ := bit_code (m := m) (x := x) hE hs hl
    rw [hc] at hc2
    obtain rfl := Option.some.inj hc2
    rw [par35]
    refine ht.mono fun out ho => ⟨ho.1, ?_⟩
    obtain ⟨oa', q1, q2⟩ := ho.2
    refine ⟨_, oa', [], rfl, rfl, rfl, rfl, q1, fun hn => ?_, rfl, rfl⟩
    cases oa with
    | none => exact absurd rfl hn
    | some a => exact q2.same 1 rfl)
  exact ⟨H', oa', hE, hV, ⟨h1, h2, h3, h4⟩⟩

end

end Go.Proofs.Yteblpjhkgdpchaa

/- Walks, events: a writer of bits: a field, a code. -/
namespace Go.Proofs.Yteblpjhkgdpchaa
open Go.AM
set_option linter.unusedSimpArgs false
set_option linter.unusedVariables false

def fieldW (s : Ws) (x : Int) : Nat → Ws
  | 0 => s
  | n + 1 => bitW (fieldW s x n) (x / 2 ^ n)
def codeW (s : Ws) (x : Int) : Nat → Ws
  | 0 => s
  | n + 1 => codeW (bitW s (x / 2 ^ n)) x n

theorem fieldW_ok {s : Ws} {x : Int} (h : WsOk s) : ∀ n, WsOk (fieldW s x n) ∧ (fieldW s x n).k = s.k + n
  | 0 => ⟨h, rfl⟩
  | n + 1 => by
    obtain ⟨h1, h2⟩ := fieldW_ok h n
    exact ⟨bitW_ok h1, by simp only [fieldW, bitW, h2]; omega⟩
theorem codeW_ok {x : Int} : ∀ (n : Nat) {s : Ws}, WsOk s → WsOk (codeW s x n) ∧ (codeW s x n).k = s.k + n
  | 0, _, h => ⟨h, rfl⟩
  | n + 1, s, h => by
    obtain ⟨h1, h2⟩ := codeW_ok n (bitW_ok (x := x / 2 ^ n) h)
    have hk : (bitW s (x / 2 ^ n)).k = s.k + 1 := rfl
    exact ⟨h1, by show (codeW (bitW s (x / 2 ^ n)) x n).k = _; rw [h2, hk]; omega⟩

theorem shr_eq {x : Int} {i : Nat} (hi : i ≤ 60) : x.fdiv (2 ^ min i 64) = x / 2 ^ i := by
  rw [Nat.min_eq_left (by omega)]
  exact Int.fdiv_eq_ediv_of_nonneg _ (Int.le_of_lt (Int.pow_pos (by omega)))

section
variable {t : Nat} {H : AM.Heap} {o : Nat} {oa : Option Nat} {s : Ws}

def fdFr (x : Int) (n i : Nat) : AM.Frame := [(0, .ptr 0 0 0 0), (1, .int .i64 x), (7, .int .i64 (n : Nat)), (8, .int .i64 (i : Nat))]

set_option maxRecDepth 100000 in
theorem wf_r3 {m n i : Nat} {x : Int} {E : AM.Heap} (h : WrV t E 0 oa s) (hs : WsOk s) (hl : s.k ≤ 9000000) (hi : i ≤ 60) : ∃ E' oa', WrV t E' 0 oa' (bitW s (x / 2 ^ i)) ∧ Kpw E E' 0 oa oa' ∧ ∃ code, ((Try.f25.body).bind (codeAt [1, 0, 0, 1, 1])) = some code ∧ Run X (evT X) 25 m code (fdFr x n i ++ [(9, .bool true)]) E ⟨.normal, fdFr x n (i + 1), E'⟩ := by
  obtain ⟨E', oa', g1, g2, g3⟩ := bit_ev (x := x / 2 ^ i) h hs hl
  refine ⟨E', oa', g2, g3, _, rfl, ?_⟩
  have w1 : IntKind.i64.wrap ((i : Int) + 1) = ((i + 1 : Nat) : Int) := by rw [wrap_i64 (by omega) (by omega)]; omega
  have hi0 : ¬ (i : Int) < 0 := by omega
  have w2 := shr_eq (x := x) hi
  apply Run.seq (fr' := fdFr x n i) (H' := E')
  · apply Run.block
    · apply Run.seq (fr' := [(0, .ptr 0 0 0 0), (1, .int .i64 x), (6, .int .i64 (i : Nat)), (7, .int .i64 (n : Nat)), (8, .int .i64 (i : Nat))]) (H' := E)
      · simp only [fdFr]
        (refine ⟨0, ?_⟩; simp (maxSteps := 2000000) -implicitDefEqProofs [-getElem?_pos, List.getElem?_cons_zero, List.getElem?_cons_succ, go_sem, eqV, plen, loadV, storeV, assignV])
      · simp only [fdFr]
        (refine ⟨0, ?_⟩; simp (maxSteps := 2000000) -implicitDefEqProofs [-getElem?_pos, List.getElem?_cons_zero, List.getElem?_cons_succ, go_sem, eqV, plen, loadV, storeV, g1, hi0, w2])
    · simp
  · generalize i + 1 = i1 at *
    simp only [fdFr]
    (refine ⟨0, ?_⟩; simp (maxSteps := 2000000) -implicitDefEqProofs [-getElem?_pos, List.getElem?_cons_zero, List.getElem?_cons_succ, go_sem, eqV, plen, loadV, storeV, w1])

set_option maxRecDepth 100000 in
theorem wfield_code {m n : Nat} {x : Int} {E : AM.Heap} (h : WrV t E 0 oa s) (hs : WsOk s) (hl : s.k ≤ 8000000) (hn : n ≤ 60) : ∃ code, Try.f25.body = some code ∧
    Tells (EndsP fun fr E' => ∃ oa', WrV t E' 0 oa' (fieldW s x n) ∧ Kpw E E' 0 oa oa') X (evT X) 25 m code [(0, .ptr 0 0 0 0), (1, .int .i64 x), (2, .int .i64 (n : Nat))] E := by
  refine ⟨_, rfl, ?_⟩
  apply Tells.seq (fr' := fdFr x n 0) (H' := E)
  · simp only [fdFr]
    (refine ⟨0, ?_⟩; simp (maxSteps := 2000000) -implicitDefEqProofs [-getElem?_pos, List.getElem?_cons_zero, List.getElem?_cons_succ, go_sem, eqV, plen, loadV, storeV])
  refine Tells.mono (Q := Goes fun fr E' => ∃ oa', WrV t E' 0 oa' (fieldW s x n) ∧ Kpw E E' 0 oa oa') ?_ fun o ho => ⟨.inl ho.1, ho.2⟩
  apply Tells.block
  refine Tells.loopP (I := fun q fr E' => ∃ i oa', i ≤ n ∧ q = n - i ∧ fr = fdFr x n i ∧ WrV t E' 0 oa' (fieldW s x i) ∧ Kpw E E' 0 oa oa') ?_ (k := n) ⟨0, oa, by omega, rfl, rfl, h, Kpw.refl E 0 oa⟩
  rintro q fr E' ⟨i, oa', hi, rfl, rfl, hV, hk⟩
  by_cases hin : i = n
  · subst hin
    refine Tells.of (o := ⟨.exit 0, fdFr x i i ++ [(9, .bool false)], E'⟩) ?_ (.inr ⟨by simp, rfl, oa', hV, hk⟩)
    refine ⟨0, ?_⟩
    simp only [fdFr]
    simp (maxSteps := 2000000) -implicitDefEqProofs [-getElem?_pos, List.getElem?_cons_zero, List.getElem?_cons_succ, go_sem, eqV, plen, loadV, storeV]
  · have hlt : i < n := by omega
    have hltI : (i : Int) < (n : Int) := by omega
    obtain ⟨f1, f2⟩ := fieldW_ok (x := x) hs i
    obtain ⟨E2, oa2, h1, h2, hr⟩ := wf_r3 (m := m) (n := n) (i := i) (x := x) hV f1 (by omega) (by omega)
    refine Tells.of (o := ⟨.normal, fdFr x n (i + 1), E2⟩) ?_ (.inl ⟨rfl, n - (i + 1), by omega, i + 1, oa2, by omega, rfl, rfl, h1, hk.trans h2⟩)
    apply Run.seq (fr' := fdFr x n i ++ [(9, .bool true)]) (H' := E')
    · simp only [fdFr]
      (refine ⟨0, ?_⟩; simp (maxSteps := 2000000) -implicitDefEqProofs [-getElem?_pos, List.getElem?_cons_zero, List.getElem?_cons_succ, go_sem, eqV, plen, loadV, storeV, hltI, hlt])
    apply Run.seq (fr' := fdFr x n i ++ [(9, .bool true)]) (H' := E')
    · exact Run.cond (d := true) (by simp [fdFr, evalO, getF]) ⟨0, rfl⟩
    exact piece hr _ rfl

def wcFr (x : Int) (I : Int) : AM.Frame := [(0, .ptr 0 0 0 0), (1, .int .i64 x), (6, .int .i64 I)]

set_option maxRecDepth 100000 in
theorem wcode_code {m n : Nat} {x : Int} {E : AM.Heap} (h : WrV t E 0 oa s) (hs : WsOk s) (hl : s.k ≤ 8000000) (hn : n ≤ 60) : ∃ code, Try.f32.body = some code ∧
    Tells (EndsP fun fr E' => ∃ oa', WrV t E' 0 oa' (codeW s x n) ∧ Kpw E E' 0 oa oa') X (evT X) 32 m code [(0, .ptr 0 0 0 0), (1, .int .i64 x), (2, .int .i64 (n : Nat))] E := by
  refine ⟨_, rfl, ?_⟩
  apply Tells.seq (fr' := wcFr x ((n : Int) - 1)) (H' := E)
  · have w1 : IntKind.i64.wrap ((n : Int) - 1) = (n : Int) - 1 := by rw [wrap_i64 (by omega) (by omega)]
    simp only [wcFr]
    (refine ⟨0, ?_⟩; simp (maxSteps := 2000000) -implicitDefEqProofs [-getElem?_pos, List.getElem?_cons_zero, List.getElem?_cons_succ, go_sem, eqV, plen, loadV, storeV, w1, assignV])
  refine Tells.mono (Q := Goes fun fr E' => ∃ oa', WrV t E' 0 oa' (codeW s x n) ∧ Kpw E E' 0 oa oa') ?_ fun o ho => ⟨.inl ho.1, ho.2⟩
  apply Tells.block
  refine Tells.loopP (I := fun q fr E' => ∃ oa' s', q ≤ n ∧ s'.k + q = s.k + n ∧ WsOk s' ∧ fr = wcFr x ((q : Int) - 1) ∧ WrV t E' 0 oa' s' ∧ Kpw E E' 0 oa oa' ∧ codeW s' x q = codeW s x n) ?_ (k := n) ⟨oa, s, by omega, rfl, hs, rfl, h, Kpw.refl E 0 oa, rfl⟩
  rintro q fr E' ⟨oa', s', hq, hkk, hs', rfl, hV, hk, hc⟩
  cases q with
  | zero =>
    refine Tells.of (o := ⟨.exit 0, wcFr x (((0 : Nat) : Int) - 1) ++ [(10, .bool false)], E'⟩) ?_ (.inr ⟨by simp, rfl, oa', by rw [← hc]; exact hV, hk⟩)
    have e1 : (((0 : Nat) : Int) - 1) = -1 := rfl
    rw [e1]
    refine ⟨0, ?_⟩
    simp only [wcFr]
    simp (maxSteps := 2000000) -implicitDefEqProofs [-getElem?_pos, List.getElem?_cons_zero, List.getElem?_cons_succ, go_sem, eqV, plen, loadV, storeV]
  | succ q =>
    have e1 : (((q + 1 : Nat) : Int) - 1) = (q : Nat) := by omega
    rw [e1]
    obtain ⟨E2, oa2, g1, g2, g3⟩ := bit_ev (x := x / 2 ^ q) hV hs' (by omega)
    refine Tells.of (o := ⟨.normal, wcFr x ((q : Int) - 1), E2⟩) ?_ (.inl ⟨rfl, q, by omega, oa2, bitW s' (x / 2 ^ q), by omega, by simp only [bitW]; omega, bitW_ok hs', rfl, g2, hk.trans g3, hc⟩)
    have w1 : IntKind.i64.wrap ((q : Int) - 1) = (q : Int) - 1 := by rw [wrap_i64 (by omega) (by omega)]
    have hq0 : ¬ (q : Int) < 0 := by omega
    have hq1 : (0 : Int) ≤ (q : Int) := by omega
    have w2 := shr_eq (x := x) (i := q) (by omega)
    apply Run.seq (fr' := wcFr x (q : Nat) ++ [(10, .bool true)]) (H' := E')
    · apply Run.seq (fr' := wcFr x (q : Nat) ++ [(10, .bool true)]) (H' := E')
      · simp only [wcFr]
        (refine ⟨0, ?_⟩; simp (maxSteps := 2000000) -implicitDefEqProofs [-getElem?_pos, List.getElem?_cons_zero, List.getElem?_cons_succ, go_sem, eqV, plen, loadV, storeV, hq1])
      · exact Run.cond (d := true) (by simp [wcFr, evalO, getF]) ⟨0, rfl⟩
    apply Run.seq (fr' := wcFr x (q : Nat)) (H' := E2)
    · apply Run.block
      · simp only [wcFr]
        (refine ⟨0, ?_⟩; simp (maxSteps := 2000000) -implicitDefEqProofs [-getElem?_pos, List.getElem?_cons_zero, List.getElem?_cons_succ, go_sem, eqV, plen, loadV, storeV, g1, hq0, w2])
      · simp
    · simp only [wcFr]
      (refine ⟨0, ?_⟩; simp (maxSteps := 2000000) -implicitDefEqProofs [-getElem?_pos, List.getElem?_cons_zero, List.getElem?_cons_succ, go_sem, eqV, plen, loadV, storeV, w1, assignV])

theorem wrun_ev {f n : Nat} {fn : Func} {code : Code} {xs ys : List AV} {s' : Ws} (hF : X.P.funcs[f]? = some fn) (hb : fn.body = some code) (hrw : X.rw f 0 = false) (h : WrV t H o oa s)
    (hA : ∀ π K, π.map Prod.fst = o :: oa.toList → ArgI X f H π K 1 xs ys) (hi : idsL ys = []) (hn : xs.length + 2 = n) (hng : n < gtag) (hr : fn.results.toList = [])
    (run : ∀ m E oa1, WrV n E 0 oa1 s → ∃ code, fn.body = some code ∧ Tells (EndsP fun fr E' => ∃ oa', WrV n E' 0 oa' s' ∧ Kpw E E' 0 oa1 oa') X (evT X) f m code (numbered 0 (coerce X (.ptr 0 0 0 0 :: ys) (paramsOf X f))) E) :
    ∃ H' oa', evT X f (.ptr o 0 0 0 :: xs) H = some (.tup [], H') ∧ WrV t H' o oa' s' ∧ Kpw H H' o oa oa' := by
  obtain ⟨H', oa', s2, l, hE, hV, ⟨rfl, rfl⟩, h1, h2, h3, h4⟩ := wmeth_ev (Q := fun s2 l r => s2 = s' ∧ l = []) hF hb hrw h hA hi hn hng (by
    intro m E hE
    obtain ⟨code2, hc2, ht⟩ := run m E _ hE
    rw [hb] at hc2
    obtain rfl := Option.some.inj hc2
    refine ht.mono fun out ho => ⟨ho.1, ?_⟩
    obtain ⟨oa', q1, q2⟩ := ho.2
    refine ⟨_, oa', [], by rw [hr]; rfl, rfl, rfl, rfl, q1, fun hn => ?_, rfl, rfl⟩
    cases oa with
    | none => exact absurd rfl hn
    | some a => exact q2.same 1 rfl)
  exact ⟨H', oa', hE, hV, ⟨h1, h2, h3, h4⟩⟩

theorem wfield_ev {x I : Int} {n : Nat} (hI : I = (n : Nat)) (h : WrV t H o oa s) (hs : WsOk s) (hl : s.k ≤ 8000000) (hn : n ≤ 60) : ∃ H' oa', evT X 25 [.ptr o 0 0 0, .int .i64 x, .int .i64 I] H = some (.tup [], H') ∧ WrV t H' o oa' (fieldW s x n) ∧ Kpw H H' o oa oa' := by
  subst hI
  obtain ⟨code, hc⟩ : ∃ code, Try.f25.body = some code := ⟨_, rfl⟩
  exact wrun_ev (n := 4) (xs := [.int .i64 x, .int .i64 (n : Nat)]) (ys := [.int .i64 x, .int .i64 (n : Nat)]) Try.func25 hc rfl h (fun π K _ => ArgI.flat rfl rfl (ArgI.flat rfl rfl ArgI.nil)) rfl rfl (by simp [gtag]) rfl fun m E oa1 hE => by
    obtain ⟨code2, hc2, ht⟩ := wfield_code (m := m) (x := x) hE hs hl hn
    rw [par25]
    exact ⟨code2, hc2, ht⟩

theorem wcode_ev {x I : Int} {n : Nat} (hI : I = (n : Nat)) (h : WrV t H o oa s) (hs : WsOk s) (hl : s.k ≤ 8000000) (hn : n ≤ 60) : ∃ H' oa', evT X 32 [.ptr o 0 0 0, .int .i64 x, .int .i64 I] H = some (.tup [], H') ∧ WrV t H' o oa' (codeW s x n) ∧ Kpw H H' o oa oa' := by
  subst hI
  obtain ⟨code, hc⟩ : ∃ code, Try.f32.body = some code := ⟨_, rfl⟩
  exact wrun_ev (n := 4) (xs := [.int .i64 x, .int .i64 (n : Nat)]) (ys := [.int .i64 x, .int .i64 (n : Nat)]) Try.func32 hc rfl h (fun π K _ => ArgI.flat rfl rfl (ArgI.flat rfl rfl ArgI.nil)) rfl rfl (by simp [gtag]) rfl fun m E oa1 hE => by
    obtain ⟨code2, hc2, ht⟩ := wcode_code (m := m) (x := x) hE hs hl hn
    rw [par32]
    exact ⟨code2, hc2, ht⟩

end

end Go.Proofs.Yteblpjhkgdpchaa

/- Walks: may a piece be? what pieces make. -/
namespace Go.Proofs.Yteblpjhkgdpchaa
open Go.AM
set_option linter.unusedSimpArgs false
set_option linter.unusedVariables false

/-- any piece -/
structure Px where
  len : Int
  dist : Int
  byte : UInt8

def pxR (x : Px) : AV := .pc [.int .i64 x.len, .int .i64 x.dist, .int .u8 (x.byte.toNat : Nat)]
def pxO (x : Px) : AM.Obj := ⟨pxR x, 0, some 3, 1, false, true, 0⟩
def mayR (x : Px) : Bool := if x.len = 0 then decide (x.dist = 0) else decide (3 ≤ x.len) && (decide (x.len ≤ 258) && (decide (1 ≤ x.dist) && (decide (x.dist ≤ 32768) && decide (x.byte = 0))))

def copyB (d : Nat) : Nat → List UInt8 → List UInt8
  | 0, o => o
  | n + 1, o => copyB d n (o ++ [o.getD (o.length - d) 0])
/-- the bytes that pieces make -/
def expF : List Px → List UInt8 → List UInt8 × Int
  | [], o => (o, 0)
  | x :: r, o => if mayR x = false then ([], 2) else if x.len = 0 then expF r (o ++ [x.byte]) else if (o.length : Int) < x.dist then ([], 5) else expF r (copyB x.dist.toNat x.len.toNat o)

set_option maxRecDepth 100000 in
theorem may_code (x : Px) : ∃ code, Try.f26.body = some code ∧ Tells (Rets fun fr H => getF fr 2 = .bool (mayR x)) X (evT X) 26 0 code [(0, .agg (pxR x))] [] := by
  refine ⟨_, rfl, ?_⟩
  simp only [pxR]
  apply Tells.seq (fr' := [(1, .ptr 0 0 0 0)]) (H' := [some (⟨.pc [.int .i64 x.len, .int .i64 x.dist, .int .u8 (x.byte.toNat : Nat)], 0, some 3, 1, false, true, 0⟩ : AM.Obj)])
  · (refine ⟨0, ?_⟩; simp (maxSteps := 2000000) -implicitDefEqProofs [-getElem?_pos, List.getElem?_cons_zero, List.getElem?_cons_succ, go_sem, eqV, plen, loadV, storeV])
  unfold mayR
  by_cases h0 : x.len = 0
  · rw [if_pos h0, h0]
    refine Tells.of (o := ⟨.ret, [(2, .bool (decide (x.dist = 0)))], [some (⟨.pc [.int .i64 0, .int .i64 x.dist, .int .u8 (x.byte.toNat : Nat)], 0, some 3, 1, false, true, 0⟩ : AM.Obj)]⟩) ?_ ⟨rfl, rfl⟩
    refine ⟨0, ?_⟩
    by_cases h1 : x.dist = 0
    · rw [decide_eq_true h1, h1]
      simp (maxSteps := 2000000) -implicitDefEqProofs [-getElem?_pos, List.getElem?_cons_zero, List.getElem?_cons_succ, go_sem, eqV, plen, loadV, storeV]
    · have h1b : (x.dist == 0) = false := by simpa using h1
      rw [decide_eq_false h1]
      simp (maxSteps := 2000000) -implicitDefEqProofs [-getElem?_pos, List.getElem?_cons_zero, List.getElem?_cons_succ, go_sem, eqV, plen, loadV, storeV, h1, h1b]
  · rw [if_neg h0]
    have h0b : (x.len == 0) = false := by simpa using h0
    refine Tells.of (o := ⟨.ret, [(2, .bool (decide (3 ≤ x.len) && (decide (x.len ≤ 258) && (decide (1 ≤ x.dist) && (decide (x.dist ≤ 32768) && decide (x.byte = 0))))))], [some (⟨.pc [.int .i64 x.len, .int .i64 x.dist, .int .u8 (x.byte.toNat : Nat)], 0, some 3, 1, false, true, 0⟩ : AM.Obj)]⟩) ?_ ⟨rfl, rfl⟩
    refine ⟨0, ?_⟩
    by_cases h1 : 3 ≤ x.len
    · rw [decide_eq_true h1]
      by_cases h2 : x.len ≤ 258
      · rw [decide_eq_true h2]
        by_cases h3 : 1 ≤ x.dist
        · rw [decide_eq_true h3]
          by_cases h4 : x.dist ≤ 32768
          · rw [decide_eq_true h4]
            by_cases h5 : x.byte = 0
            · rw [decide_eq_true h5, h5]
              simp (maxSteps := 2000000) -implicitDefEqProofs [-getElem?_pos, List.getElem?_cons_zero, List.getElem?_cons_succ, go_sem, eqV, plen, loadV, storeV, h0, h0b, h1, h2, h3, h4]
            · have h5N : ¬ x.byte.toNat = 0 := fun h => h5 (UInt8.toNat_inj.1 h)
              have h5b : ((x.byte.toNat : Int) == 0) = false := by simpa using h5N
              have h5I : ¬ (x.byte.toNat : Int) = 0 := by omega
              rw [decide_eq_false h5]
              simp (maxSteps := 2000000) -implicitDefEqProofs [-getElem?_pos, List.getElem?_cons_zero, List.getElem?_cons_succ, go_sem, eqV, plen, loadV, storeV, h0, h0b, h1, h2, h3, h4, h5N, h5b, h5I]
          · rw [decide_eq_false h4]
            simp (maxSteps := 2000000) -implicitDefEqProofs [-getElem?_pos, List.getElem?_cons_zero, List.getElem?_cons_succ, go_sem, eqV, plen, loadV, storeV, h0, h0b, h1, h2, h3, h4]
        · rw [decide_eq_false h3]
          simp (maxSteps := 2000000) -implicitDefEqProofs [-getElem?_pos, List.getElem?_cons_zero, List.getElem?_cons_succ, go_sem, eqV, plen, loadV, storeV, h0, h0b, h1, h2, h3]
      · rw [decide_eq_false h2]
        simp (maxSteps := 2000000) -implicitDefEqProofs [-getElem?_pos, List.getElem?_cons_zero, List.getElem?_cons_succ, go_sem, eqV, plen, loadV, storeV, h0, h0b, h1, h2]
    · rw [decide_eq_false h1]
      simp (maxSteps := 2000000) -implicitDefEqProofs [-getElem?_pos, List.getElem?_cons_zero, List.getElem?_cons_succ, go_sem, eqV, plen, loadV, storeV, h0, h0b, h1]

theorem may_ev (H : AM.Heap) (x : Px) : evT X 26 [.agg (pxR x)] H = some (.bool (mayR x), H) := by
  obtain ⟨code, hc, ⟨out, ⟨ho, h2⟩, hr⟩⟩ := may_code x
  have hl : lendArgs X 26 H 0 [.agg (pxR x)] = some ([.agg (pxR x)], [⟨[], []⟩]) := by
    have hrw : X.rw 26 0 = false := rfl
    simp [lendArgs, hrw, lendV, lendL, lend1, pxR, tags]
  refine evT_eq (Ev1.toldP (l := [.bool (mayR x)]) (evT_below X) Try.func26 hc hl rfl (by simp [gtag]) rfl rfl rfl ?_)
  rw [par26]
  refine ⟨out, ⟨ho, ?_⟩, hr⟩
  show some [getF out.fr 2] = _
  rw [h2]

end Go.Proofs.Yteblpjhkgdpchaa

/- Walks: Expand. -/
namespace Go.Proofs.Yteblpjhkgdpchaa
open Go.AM
set_option linter.unusedSimpArgs false
set_option linter.unusedVariables false

def exFr (v : AV) (c : Nat) (l : List Px) (i : Nat) : AM.Frame := [(4, v), (7, .ro c (.pr 3 (l.map pxR)) 1), (8, .int .i64 (l.length : Nat)), (9, .int .i64 (i : Nat))]
def exFq (v : AV) (q c : Nat) (l : List Px) (i : Nat) : AM.Frame := [(4, v), (6, .ptr q 0 0 0), (7, .ro c (.pr 3 (l.map pxR)) 1), (8, .int .i64 (l.length : Nat)), (9, .int .i64 (i : Nat))]
theorem mkPx (l : List AV) : mkAgg X 25 l = some (.pc l) := mkPc l
theorem copyB_len (d : Nat) : ∀ (n : Nat) (o : List UInt8), (copyB d n o).length = o.length + n
  | 0, o => rfl
  | n + 1, o => by rw [copyB, copyB_len d n]; simp; omega

section
variable {c : Nat} {l : List Px}

set_option maxRecDepth 100000 in
theorem ex_r4 {m i : Nat} {x : Px} {v : AV} {E : AM.Heap} (hx : l[i]? = some x) (hl : l.length ≤ 100000) : ∃ code, ((Try.f14.body).bind (codeAt [1, 1, 0, 1, 0, 0, 1, 1, 0, 0, 0])) = some code ∧ Run X (evT X) 14 m code (exFr v c l i ++ [(10, .bool true)]) E ⟨.normal, exFq v E.length c l i, E ++ [some (pxO x)]⟩ := by
  refine ⟨_, rfl, ?_⟩
  have hx' : (l.map pxR)[i]? = some (pxR x) := by rw [List.getElem?_map, hx]; rfl
  have hi := ltAt hx
  have hiI : (i : Int) < (l.length : Int) := by omega
  have hll : (l.map pxR).length = l.length := by simp
  simp only [exFr, exFq, pxO, pxR] at hx' ⊢
  generalize l.map pxR = R at *
  generalize l.length = N at *
  (refine ⟨0, ?_⟩; simp (maxSteps := 2000000) -implicitDefEqProofs [-getElem?_pos, List.getElem?_cons_zero, List.getElem?_cons_succ, go_sem, eqV, plen, loadV, storeV, hx', hi, hiI, hll, mkPx, retagL, retag, cat_at, cat_set, splice, flatCells, scalars, scalar])

set_option maxRecDepth 100000 in
theorem ex_r5 {m i q : Nat} {x : Px} {v : AV} {E : AM.Heap} (hq : E[q]? = some (some (pxO x))) : ∃ code, ((Try.f14.body).bind (codeAt [1, 1, 0, 1, 0, 0, 1, 1, 0, 0, 1, 0, 0])) = some code ∧ Run X (evT X) 14 m code (exFq v q c l i) E ⟨.normal, exFq v q c l i ++ [(15, .bool (!mayR x))], E⟩ := by
  refine ⟨_, rfl, ?_⟩
  have hM := may_ev E x
  generalize mayR x = d at *
  simp only [exFq, pxO, pxR] at hq hM ⊢
  generalize l.map pxR = R at *
  generalize l.length = N at *
  cases d <;> (refine ⟨0, ?_⟩; simp (maxSteps := 2000000) -implicitDefEqProofs [-getElem?_pos, List.getElem?_cons_zero, List.getElem?_cons_succ, go_sem, eqV, plen, loadV, storeV, hq, hM, mkPx, retagL, retag])

theorem emBy : emptyRow X 5 = .pb [] := by kernel_rfl

set_option maxRecDepth 100000 in
theorem ex_r8 {m i q N g : Nat} {x : Px} {v : AV} {tl : AM.Frame} {E E' : AM.Heap} (hq : E[q]? = some (some (pxO x))) (hA : appendV X E 28 v (.ro 1 (.pb [x.byte]) 0) = some (.sl 1 0 N g, E')) : ∃ code, ((Try.f14.body).bind (codeAt [1, 1, 0, 1, 0, 0, 1, 1, 0, 0, 1, 1, 0, 1, 0, 0])) = some code ∧ Run X (evT X) 14 m code (exFq v q c l i ++ tl) E ⟨.normal, exFr (.sl 1 0 N g) c l i, E'⟩ := by
  refine ⟨_, rfl, ?_⟩
  have hbs := bsW E x.byte
  simp only [exFq, exFr, pxO, pxR] at hq ⊢
  generalize l.map pxR = R at *
  generalize l.length = N at *
  (refine ⟨0, ?_⟩; simp (maxSteps := 2000000) -implicitDefEqProofs [-getElem?_pos, List.getElem?_cons_zero, List.getElem?_cons_succ, go_sem, eqV, plen, loadV, storeV, hq, hA, hbs, assignV])

set_option maxRecDepth 100000 in
theorem ex_r9 {m i q g : Nat} {x : Px} {o : List UInt8} {ob : AM.Obj} {tl : AM.Frame} {E : AM.Heap} (hq : E[q]? = some (some (pxO x))) (ho : E[1]? = some (some ob)) (hw : Rw (.pb o) g ob) : ∃ code, ((Try.f14.body).bind (codeAt [1, 1, 0, 1, 0, 0, 1, 1, 0, 0, 1, 1, 1, 0, 0])) = some code ∧ Run X (evT X) 14 m code (exFq (.sl 1 0 o.length g) q c l i ++ tl) E ⟨.normal, exFq (.sl 1 0 o.length g) q c l i ++ [(28, .bool (decide ((o.length : Int) < x.dist)))], E⟩ := by
  refine ⟨_, rfl, ?_⟩
  have hg := hw.g
  simp only [exFq, pxO, pxR] at hq ⊢
  generalize l.map pxR = R at *
  generalize l.length = N at *
  generalize o.length = K at *
  by_cases h : (K : Int) < x.dist
  · rw [decide_eq_true h]
    (refine ⟨0, ?_⟩; simp (maxSteps := 2000000) -implicitDefEqProofs [-getElem?_pos, List.getElem?_cons_zero, List.getElem?_cons_succ, go_sem, eqV, plen, loadV, storeV, hq, ho, hg, h])
  · rw [decide_eq_false h]
    (refine ⟨0, ?_⟩; simp (maxSteps := 2000000) -implicitDefEqProofs [-getElem?_pos, List.getElem?_cons_zero, List.getElem?_cons_succ, go_sem, eqV, plen, loadV, storeV, hq, ho, hg, h])

def exFc (v : AV) (q c : Nat) (l : List Px) (i n j : Nat) : AM.Frame := [(4, v), (6, .ptr q 0 0 0), (7, .ro c (.pr 3 (l.map pxR)) 1), (8, .int .i64 (l.length : Nat)), (9, .int .i64 (i : Nat)), (30, .int .i64 (n : Nat)), (31, .int .i64 (j : Nat))]

set_option maxRecDepth 100000 in
theorem ex_r13 {m i q n j g d : Nat} {x : Px} {o : List UInt8} {ob : AM.Obj} {tl : AM.Frame} {E : AM.Heap} (hq : E[q]? = some (some (pxO x))) (hd : x.dist = (d : Nat)) (hd1 : 1 ≤ d) (hd2 : d ≤ o.length) (ho : E[1]? = some (some ob)) (hw : Rw (.pb o) g ob) (hol : o.length ≤ 1000000) :
    ∃ ob', Rw (.pb (o ++ [o.getD (o.length - d) 0])) (g + 1) ob' ∧ ∃ code, ((Try.f14.body).bind (codeAt [1, 1, 0, 1, 0, 0, 1, 1, 0, 0, 1, 1, 1, 1, 1, 0, 0, 1, 1, 0, 0])) = some code ∧ Run X (evT X) 14 m code (exFc (.sl 1 0 o.length g) q c l i n j ++ tl) E ⟨.normal, exFc (.sl 1 0 (o.length + 1) (g + 1)) q c l i n j, upd E 1 (some ob')⟩ := by
  have hy : o[o.length - d]? = some (o.getD (o.length - d) 0) := by
    rw [List.getD_eq_getElem?_getD, List.getElem?_eq_getElem (by omega)]; rfl
  generalize o.getD (o.length - d) 0 = y at *
  obtain ⟨ob', w1, w2⟩ := app_rw (C := X) (T := 28) (e := 5) (H := E) (o := 1) (m := [y]) (src := .ro 1 (.pb [y]) 0) und28 und5 size5 bytes5 zok5 ho hw (.inl (by simp [srcV, payB, ptag])) (by simp; omega)
  refine ⟨ob', w1, _, rfl, ?_⟩
  have hbs := bsW E y
  have q1 := hw.p; have q2 := hw.g; have q4 := hw.ids; have q5 := hw.tg
  have w3 : IntKind.i64.wrap ((o.length : Int) - (d : Int)) = ((o.length - d : Nat) : Int) := by rw [wrap_i64 (by omega) (by omega)]; omega
  have hlt : o.length - d < o.length := by omega
  have hltI : ((o.length - d : Nat) : Int) < (o.length : Int) := by omega
  simp only [List.length_singleton] at w2
  simp only [exFc, pxO, pxR, hd] at hq ⊢
  generalize l.map pxR = R at *
  generalize l.length = N at *
  generalize o.length - d = kd at *
  generalize hK : o.length = K at *
  generalize K + 1 = K1 at *
  (refine ⟨0, ?_⟩; simp (maxSteps := 2000000) -implicitDefEqProofs [-getElem?_pos, List.getElem?_cons_zero, List.getElem?_cons_succ, go_sem, eqV, plen, loadV, storeV, hq, ho, q1, q2, q4, q5, w3, hy, hlt, hltI, hbs, w2, hK, assignV])

end

end Go.Proofs.Yteblpjhkgdpchaa
