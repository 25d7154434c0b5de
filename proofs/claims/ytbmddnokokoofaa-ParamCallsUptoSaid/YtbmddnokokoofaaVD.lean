/- Walks: what an execute says: its parameters looked at. -/
import Derived.Test.YtbmddnokokoofaaVE
namespace Go.Proofs.Ytbmddnokokoofaa
open Go.AM
set_option linter.unusedSimpArgs false
set_option linter.unusedVariables false

theorem live_new (H : AM.Heap) (ob : AM.Obj) (h : ob.g = 0) : live (H ++ [some ob]) H.length 0 = some ob := by
  simp [live, h]

/-- what Append tells -/
def pApp (b : List UInt8) (l : List Pm) (bd : Bool) : List UInt8 × Int :=
  if 65535 < l.length then ([], 3) else if l.any Pm.bad then ([], 2) else if l.length = 0 then (b, 0) else (b ++ paB l bd, 0)

def pcFr (A L : AV) (bd : Bool) (n i : Nat) : AM.Frame := [(0, A), (1, L), (2, .bool bd), (20, L), (21, .int .i64 (n : Nat)), (22, .int .i64 (i : Nat))]

section
variable (c : Nat) (b : List UInt8) (d : Nat) (l : List Pm) (bd : Bool)

set_option maxRecDepth 100000 in
set_option maxHeartbeats 4000000 in
theorem pappend_code (hc : c = 0 → b = []) (hb : b.length ≤ 2000000) (hl : ∀ p ∈ l, p.ok) (hR : (restB l).length ≤ 1000000) : ∃ code, Try.f8.body = some code ∧
    Tells (Rets fun fr H => ∃ o g ob, getF fr 6 = .sl o 0 (pApp b l bd).1.length g ∧ getF fr 7 = .int .i64 (pApp b l bd).2 ∧ H[o]? = some (some ob) ∧ Rw (.pb (pApp b l bd).1) g ob) X (evT X) 8 0 code [(0, .ro c (.pb b) 1), (1, .ro d (pmL l) 2), (2, .bool bd)] [] := by
  refine ⟨_, rfl, ?_⟩
  have hLat : ∀ (i : Nat) (p : Pm), l[i]? = some p → (l.map Pm.pay)[i]? = some p.pay := fun i p h => (by rw [List.getElem?_map, h]; rfl)
  have hLl : (l.map Pm.pay).length = l.length := List.length_map _
  unfold pmL
  generalize hLm : l.map Pm.pay = L at *
  apply Tells.seq (fr' := [(0, .ro c (.pb b) 1), (1, .ro d (.pr 15 L) 2), (2, .bool bd)]) (H' := [some nilB])
  · (refine ⟨0, ?_⟩; simp (maxSteps := 2000000) -implicitDefEqProofs [-getElem?_pos, List.getElem?_cons_zero, List.getElem?_cons_succ, go_sem, eqV, plen, loadV, storeV, assignV, emB])
  by_cases h5 : 65535 < l.length
  · rw [show pApp b l bd = ([], 3) from if_pos h5]
    refine Tells.of (o := ⟨.ret, [(6, .sl 1 0 0 0), (7, .int .i64 3)], [some nilB, some nilB]⟩) ?_ ⟨rfl, 1, 0, nilB, rfl, rfl, rfl, nilB_rw⟩
    apply Run.seq_out (hne := by simp)
    have h5i : (65535 : Int) < (l.length : Int) := by omega
    refine ⟨0, ?_⟩
    simp (maxSteps := 2000000) -implicitDefEqProofs [-getElem?_pos, List.getElem?_cons_zero, List.getElem?_cons_succ, go_sem, eqV, plen, loadV, storeV, assignV, emB, h5i, hLl]
  have hbad : ∀ p ∈ l, p.bad = true → pApp b l bd = ([], 2) := by
    intro p hp hb
    unfold pApp
    rw [if_neg h5, if_pos (List.any_eq_true.2 ⟨p, hp, hb⟩)]
  have h5i : ¬ (65535 : Int) < (l.length : Int) := by omega
  apply Tells.seq (fr' := [(0, .ro c (.pb b) 1), (1, .ro d (.pr 15 L) 2), (2, .bool bd), (19, .bool false)]) (H' := [some nilB])
  · (refine ⟨0, ?_⟩; simp (maxSteps := 2000000) -implicitDefEqProofs [-getElem?_pos, List.getElem?_cons_zero, List.getElem?_cons_succ, go_sem, eqV, plen, loadV, storeV, assignV, emB, h5i, hLl])
  apply Tells.assoc
  apply Tells.seq (fr' := pcFr (.ro c (.pb b) 1) (.ro d (.pr 15 L) 2) bd l.length 0) (H' := [some nilB])
  · (refine ⟨0, ?_⟩; simp (maxSteps := 2000000) -implicitDefEqProofs [-getElem?_pos, List.getElem?_cons_zero, List.getElem?_cons_succ, go_sem, eqV, plen, loadV, storeV, assignV, emB, pcFr, hLl])
  generalize hHH : ([some nilB] : AM.Heap) = HH
  have hmem : ∀ (i : Nat) p, l[i]? = some p → p ∈ l := fun i p h => List.mem_of_getElem? h
  apply Tells.blockThen (P := fun fr H => (∀ p ∈ l, p.bad = false) ∧ fr = pcFr (.ro c (.pb b) 1) (.ro d (.pr 15 L) 2) bd l.length l.length ++ [(23, .bool false)])
  · refine Tells.loop (σ := Nat × AM.Heap) (fun s => s.1 ≤ l.length ∧ ∀ j p, j < s.1 → l[j]? = some p → p.bad = false) (fun s => pcFr (.ro c (.pb b) 1) (.ro d (.pr 15 L) 2) bd l.length s.1) (fun s => s.2) (fun s => l.length - s.1) ?_ (0, HH) ⟨by simp only; omega, fun j p h => absurd h (by simp only; omega)⟩
    rintro ⟨i, H⟩ ⟨hi, hall⟩
    simp only at hi hall ⊢
    by_cases hin : i = l.length
    · right
      subst hin
      refine ⟨⟨.exit 0, pcFr (.ro c (.pb b) 1) (.ro d (.pr 15 L) 2) bd l.length l.length ++ [(23, .bool false)], H⟩, .inl ⟨rfl, fun p hp => ?_, rfl⟩, by simp, ?_⟩
      · obtain ⟨j, hj, rfl⟩ := List.mem_iff_getElem.1 hp
        exact hall j _ hj (List.getElem?_eq_getElem hj)
      · (refine ⟨0, ?_⟩; simp (maxSteps := 2000000) -implicitDefEqProofs [-getElem?_pos, List.getElem?_cons_zero, List.getElem?_cons_succ, go_sem, eqV, plen, loadV, storeV, pcFr])
    · have hlt : i < l.length := by omega
      have hiI : (i : Int) < (l.length : Int) := by omega
      obtain ⟨p, hp⟩ : ∃ p, l[i]? = some p := ⟨_, List.getElem?_eq_getElem hlt⟩
      obtain ⟨o1, o2, o3⟩ := hl p (hmem i p hp)
      have w1 : IntKind.i64.wrap ((i : Int) + 1) = ((i + 1 : Nat) : Int) := by rw [wrap_i64 (by omega) (by omega)]; omega
      have hrow := hLat i p hp
      have hC := check_ev (v := p.v) (t := p.t) o1 o2 o3 (H ++ [some (pmO p)])
      have hnew : ∀ x : Option AM.Obj, (H ++ [x])[H.length]? = some x := fun x => by simp
      simp only [pmO, Pm.pay] at hC hrow
      simp only [Va.pay, Ty.pay] at hC
      by_cases h0 : chkV p.v p.t = 0
      · rw [h0] at hC
        by_cases hb2 : p.lg = true ∧ p.v.k ≠ 0
        · right
          obtain ⟨hlg, hk⟩ := hb2
          have hkb : (p.v.k != 0) = true := by simpa using hk
          have hbd := hbad p (hmem i p hp) (by unfold Pm.bad; rw [hlg]; simp [hk])
          rw [hlg] at hC hrow
          refine ⟨⟨.ret, [(6, .sl (H.length + 1) 0 0 0), (7, .int .i64 2)], H ++ [some (pmO p)] ++ [some nilB]⟩, .inr ⟨rfl, rfl, H.length + 1, 0, nilB, by rw [hbd]; rfl, by rw [hbd]; rfl, by simp, by rw [hbd]; exact nilB_rw⟩, by simp, ?_⟩
          (refine ⟨0, ?_⟩; simp (maxSteps := 2000000) -implicitDefEqProofs [-getElem?_pos, List.getElem?_cons_zero, List.getElem?_cons_succ, go_sem, eqV, plen, loadV, storeV, pcFr, hiI, hlt, hLl, hrow, pmO, Pm.pay, retagL, retag, retagP, flatCells, splice, scalars, scalar, hnew, mkPm, mkVa, mkTy, hC, hlg, hkb, assignV, emB])
        · left
          refine ⟨(i + 1, H ++ [some (pmO p)]), ⟨by simp only; omega, fun j q hj hq => ?_⟩, ?_, by simp only; omega⟩
          · simp only at hj
            by_cases hji : j = i
            · subst hji; rw [hp] at hq; obtain rfl := Option.some.inj hq
              unfold Pm.bad
              simp [h0]
              intro h; exact Classical.byContradiction fun h2 => hb2 ⟨h, h2⟩
            · exact hall j q (by omega) hq
          · cases hlg : p.lg with
            | false =>
              rw [hlg] at hC hrow
              (refine ⟨0, ?_⟩; simp (maxSteps := 2000000) -implicitDefEqProofs [-getElem?_pos, List.getElem?_cons_zero, List.getElem?_cons_succ, go_sem, eqV, plen, loadV, storeV, pcFr, hiI, hlt, hLl, hrow, pmO, Pm.pay, retagL, retag, retagP, flatCells, splice, scalars, scalar, hnew, mkPm, mkVa, mkTy, hC, hlg, w1])
            | true =>
              have hk : p.v.k = 0 := Classical.byContradiction fun h2 => hb2 ⟨hlg, h2⟩
              rw [hlg, hk] at hC hrow
              (refine ⟨0, ?_⟩; simp (maxSteps := 2000000) -implicitDefEqProofs [-getElem?_pos, List.getElem?_cons_zero, List.getElem?_cons_succ, go_sem, eqV, plen, loadV, storeV, pcFr, hiI, hlt, hLl, hrow, pmO, Pm.pay, retagL, retag, retagP, flatCells, splice, scalars, scalar, hnew, mkPm, mkVa, mkTy, hC, hlg, hk, w1])
      · right
        have h0b : (chkV p.v p.t != 0) = true := by simpa using h0
        have hbd := hbad p (hmem i p hp) (by unfold Pm.bad; simp [h0])
        refine ⟨⟨.ret, [(6, .sl (H.length + 1) 0 0 0), (7, .int .i64 2)], H ++ [some (pmO p)] ++ [some nilB]⟩, .inr ⟨rfl, rfl, H.length + 1, 0, nilB, by rw [hbd]; rfl, by rw [hbd]; rfl, by simp, by rw [hbd]; exact nilB_rw⟩, by simp, ?_⟩
        generalize chkV p.v p.t = ck at *
        (refine ⟨0, ?_⟩; simp (maxSteps := 2000000) -implicitDefEqProofs [-getElem?_pos, List.getElem?_cons_zero, List.getElem?_cons_succ, go_sem, eqV, plen, loadV, storeV, pcFr, hiI, hlt, hLl, hrow, pmO, Pm.pay, retagL, retag, retagP, flatCells, splice, scalars, scalar, hnew, mkPm, mkVa, mkTy, hC, h0b, assignV, emB])
  · rintro fr H ⟨hok, rfl⟩
    have hany : ¬ l.any Pm.bad = true := by
      intro h
      obtain ⟨p, hp, hb⟩ := List.any_eq_true.1 h
      rw [hok p hp] at hb; cases hb
    have hpa : pApp b l bd = if l.length = 0 then (b, 0) else (b ++ paB l bd, 0) := by
      unfold pApp
      rw [if_neg h5, if_neg hany]
    rw [hpa]
    obtain ⟨ob0, hw0, hA0⟩ := clone_ev (H := H) (a := .ro c (.pb b) 1) (b := b) (Byt.ro (.inl rfl) hc) (by omega)
    apply Tells.seq (fr' := [(1, .ro d (.pr 15 L) 2), (2, .bool bd), (10, .sl H.length 0 b.length 0)]) (H' := H ++ [some ob0])
    · (refine ⟨0, ?_⟩; simp (maxSteps := 2000000) -implicitDefEqProofs [-getElem?_pos, List.getElem?_cons_zero, List.getElem?_cons_succ, go_sem, eqV, plen, loadV, storeV, pcFr, hA0, assignV])
    by_cases hl0 : l.length = 0
    · rw [if_pos hl0]
      refine Tells.of (o := ⟨.ret, [(6, .sl H.length 0 b.length 0), (7, .int .i64 0)], H ++ [some ob0]⟩) ?_ ⟨rfl, H.length, 0, ob0, rfl, rfl, by simp, hw0⟩
      apply Run.seq_out (hne := by simp)
      refine ⟨0, ?_⟩
      simp (maxSteps := 2000000) -implicitDefEqProofs [-getElem?_pos, List.getElem?_cons_zero, List.getElem?_cons_succ, go_sem, eqV, plen, loadV, storeV, assignV, hLl, hl0]
    rw [if_neg hl0]
    have hl0b : ((l.length : Int) == 0) = false := beq_eq_false_iff_ne.2 (by omega)
    apply Tells.seq (fr' := [(1, .ro d (.pr 15 L) 2), (2, .bool bd), (10, .sl H.length 0 b.length 0), (47, .bool false)]) (H' := H ++ [some ob0])
    · (refine ⟨0, ?_⟩; simp (maxSteps := 2000000) -implicitDefEqProofs [-getElem?_pos, List.getElem?_cons_zero, List.getElem?_cons_succ, go_sem, eqV, plen, loadV, storeV, assignV, hLl, hl0b])
    have hM := mkB (n := (l.length + 7) / 8) (by omega) (H ++ [some ob0])
    have w7 : IntKind.i64.wrap ((l.length : Int) + 7) = ((l.length + 7 : Nat) : Int) := by rw [wrap_i64 (by omega) (by omega)]; omega
    have w8 : IntKind.i64.wrap (((l.length + 7 : Nat) : Int) / 8) = (((l.length + 7) / 8 : Nat) : Int) := by
      rw [wrap_i64 (by omega) (by omega)]; omega
    simp only [List.length_append, List.length_cons, List.length_nil, Nat.zero_add] at hM
    generalize hm8 : (l.length + 7) / 8 = m8 at *
    generalize hn7 : l.length + 7 = n7 at *
    apply Tells.seq (fr' := [(1, .ro d (.pr 15 L) 2), (2, .bool bd), (10, .sl H.length 0 b.length 0), (11, .sl (H.length + 1) 0 m8 0)]) (H' := H ++ [some ob0] ++ [some ⟨.pb (List.replicate m8 0), 0, some m8, 1, true, false, 0⟩])
    · (refine ⟨0, ?_⟩; simp (maxSteps := 2000000) -implicitDefEqProofs [-getElem?_pos, List.getElem?_cons_zero, List.getElem?_cons_succ, go_sem, eqV, plen, loadV, storeV, assignV, hLl, w7, w8, hM])
    have := piece (p2_tail b d l bd H.length m8 (by omega) ob0 (H ++ [some ob0] ++ [some (bitO m8 (zer m8))]) hw0 hb (by omega) hR hl hok (at_cat (by simp)) (by rw [show H.length + 1 = (H ++ [some ob0]).length by simp]; simp) (by simp)) _ rfl
    unfold pmL at this
    rw [hLm] at this
    exact this

end

theorem pm_ids : ∀ l : List Pm, idsL (l.map Pm.pay) = []
  | [] => rfl
  | p :: l => by rw [List.map_cons, idsL, pm_ids l]; simp [Pm.pay, ids, idsL]

theorem args_pm {f i : Nat} {H : AM.Heap} {d t : Nat} {l : List Pm} {r ys : List AV} {xs : List Lent} (hr : lendArgs X f H (i + 1) r = some (ys, xs)) (hrw : X.rw f i = false := by rfl) :
    lendArgs X f H i (.ro d (pmL l) t :: r) = some (.ro d (pmL l) (i + 1) :: ys, ⟨[], [t]⟩ :: xs) := by
  simp only [lendArgs, hrw, hr, lendV, lend1]

theorem coPm {l : List Pm} {c t : Nat} {r : List AV} {ts : List TypeId} : coerce X (.ro c (pmL l) t :: r) (35 :: ts) = .ro c (pmL l) t :: coerce X r ts := by
  simp [coerce, pmL]

theorem pappend_ev {H : AM.Heap} {a : AV} {b : List UInt8} {d t : Nat} {l : List Pm} {bd : Bool} (h : Byt H a b) (hb : b.length ≤ 2000000) (hl : ∀ p ∈ l, p.ok) (hR : (restB l).length ≤ 1000000) :
    ∃ ob, Rw (.pb (pApp b l bd).1) 0 ob ∧ evT X 8 [a, .ro d (pmL l) t, .bool bd] H = some (.tup [.sl H.length 0 (pApp b l bd).1.length 0, .int .i64 (pApp b l bd).2], H ++ [some ob]) := by
  obtain ⟨c, p, xl, hp, hc, hx'⟩ := args_byt (C := X) (f := 8) (i := 0) rfl h (args_pm (f := 8) (i := 1) (d := d) (t := t) (l := l) (args_flat (i := 2) (a := .bool bd) rfl rfl (args_nil 3)))
  obtain ⟨code, hcode, hr⟩ := pappend_code c b d l bd hc hb hl hR
  obtain ⟨ob, q1, q2⟩ := Ev1.newB (H := H) (n := (pApp b l bd).1.length) (l := (pApp b l bd).1) (rest := [.int .i64 (pApp b l bd).2]) (evT_below X) Try.func8 hcode hx' (by simp [idsL, ids]) (by simp [gtag]) rfl rfl rfl (by
    obtain ⟨o, ⟨he, o1, g, ob, q1, q2, q3, q4⟩, hrun⟩ := hr
    exact ⟨o, ⟨he, o1, g, ob, by show some [getF o.fr 6, getF o.fr 7] = _; rw [q1, q2], q3, q4⟩, by rw [par8, coB hp, coPm]; exact hrun⟩)
  exact ⟨ob, q1, evT_eq q2⟩

end Go.Proofs.Ytbmddnokokoofaa
