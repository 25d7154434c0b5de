/- E7 to W4: texts of this claim, one behind the other; what each shows stands at its head. -/
import Derived.Test.YteblpjhkgdpchaaAm3
import Derived.Test.YteblpjhkgdpchaaMg2
/- Walks, events: Expand. -/
namespace Go.Proofs.Yteblpjhkgdpchaa
open Go.AM
set_option linter.unusedSimpArgs false
set_option linter.unusedVariables false

section
variable {c : Nat} {l : List Px}

set_option maxRecDepth 100000 in
theorem ex_copy {m i q n g d : Nat} {x : Px} {o : List UInt8} {ob : AM.Obj} {E : AM.Heap} (hq : E[q]? = some (some (pxO x))) (hq1 : q ≠ 1) (hd : x.dist = (d : Nat)) (hd1 : 1 ≤ d) (hd2 : d ≤ o.length) (ho : E[1]? = some (some ob)) (hw : Rw (.pb o) g ob) (hol : o.length + n ≤ 1000000) :
    ∃ code, ((Try.f14.body).bind (codeAt [1, 1, 0, 1, 0, 0, 1, 1, 0, 0, 1, 1, 1, 1, 1])) = some code ∧ Tells (Goes fun fr E' => ∃ g' ob', keepF [4, 7, 8, 9] fr = exFr (.sl 1 0 (copyB d n o).length g') c l i ∧ E'[1]? = some (some ob') ∧ Rw (.pb (copyB d n o)) g' ob') X (evT X) 14 m code (exFc (.sl 1 0 o.length g) q c l i n 0) E := by
  refine ⟨_, rfl, ?_⟩
  apply Tells.block
  refine Tells.loopP (I := fun k fr E' => ∃ j o' g' ob', j ≤ n ∧ k = n - j ∧ fr = exFc (.sl 1 0 o'.length g') q c l i n j ∧ E'[q]? = some (some (pxO x)) ∧ E'[1]? = some (some ob') ∧ Rw (.pb o') g' ob' ∧ o'.length = o.length + j ∧ copyB d (n - j) o' = copyB d n o) ?_ (k := n) ⟨0, o, g, ob, by omega, rfl, rfl, hq, ho, hw, rfl, rfl⟩
  rintro k fr E' ⟨j, o', g', ob', hj, rfl, rfl, hq', ho', hw', hlen, hc⟩
  by_cases hjn : j = n
  · subst hjn
    rw [Nat.sub_self] at hc
    refine Tells.of (o := ⟨.exit 2, exFc (.sl 1 0 o'.length g') q c l i j j ++ [(32, .bool false)], E'⟩) ?_ (.inr ⟨by simp, rfl, g', ob', by rw [← hc]; simp [exFc, exFr, keepF, getF, copyB], ho', by rw [← hc]; exact hw'⟩)
    refine ⟨0, ?_⟩
    simp only [exFc]
    generalize l.map pxR = R at *
    generalize l.length = N at *
    generalize o'.length = K at *
    simp (maxSteps := 2000000) -implicitDefEqProofs [-getElem?_pos, List.getElem?_cons_zero, List.getElem?_cons_succ, go_sem, eqV, plen, loadV, storeV]
  · have hlt : j < n := by omega
    have hltI : (j : Int) < (n : Int) := by omega
    obtain ⟨ob2, w1, hr⟩ := ex_r13 (m := m) (c := c) (l := l) (i := i) (n := n) (j := j) (tl := [(32, .bool true)]) hq' hd hd1 (by omega) ho' hw' (by omega)
    have hn1 : n - j = (n - (j + 1)) + 1 := by omega
    rw [hn1, copyB] at hc
    refine Tells.of (o := ⟨.normal, exFc (.sl 1 0 (o'.length + 1) (g' + 1)) q c l i n (j + 1), upd E' 1 (some ob2)⟩) ?_ (.inl ⟨rfl, n - (j + 1), by omega, j + 1, o' ++ [o'.getD (o'.length - d) 0], g' + 1, ob2, by omega, rfl, by simp, neAt hq' (Ne.symm hq1), setAt ho', w1, by simp; omega, hc⟩)
    apply Run.seq (fr' := exFc (.sl 1 0 o'.length g') q c l i n j ++ [(32, .bool true)]) (H' := E')
    · simp only [exFc]
      generalize l.map pxR = R at *
      generalize l.length = N at *
      generalize o'.length = K at *
      (refine ⟨0, ?_⟩; simp (maxSteps := 2000000) -implicitDefEqProofs [-getElem?_pos, List.getElem?_cons_zero, List.getElem?_cons_succ, go_sem, eqV, plen, loadV, storeV, hltI, hlt])
    apply Run.seq (fr' := exFc (.sl 1 0 o'.length g') q c l i n j ++ [(32, .bool true)]) (H' := E')
    · exact Run.cond (d := true) (by simp [exFc, evalO, getF]) ⟨0, rfl⟩
    apply Run.seq (fr' := exFc (.sl 1 0 (o'.length + 1) (g' + 1)) q c l i n j) (H' := upd E' 1 (some ob2))
    · apply Run.block
      · exact piece hr _ rfl
      · simp
    · have w4 : IntKind.i64.wrap ((j : Int) + 1) = ((j + 1 : Nat) : Int) := by rw [wrap_i64 (by omega) (by omega)]; omega
      generalize j + 1 = j1 at *
      simp only [exFc]
      generalize l.map pxR = R at *
      generalize l.length = N at *
      generalize o'.length + 1 = K at *
      (refine ⟨0, ?_⟩; simp (maxSteps := 2000000) -implicitDefEqProofs [-getElem?_pos, List.getElem?_cons_zero, List.getElem?_cons_succ, go_sem, eqV, plen, loadV, storeV, w4])

/-- what Expand tells -/
def exX (l : List Px) (fr : AM.Frame) (E : AM.Heap) : Prop := ∃ o e a g ob, expF l [] = (o, e) ∧ getF fr 2 = .sl a 0 o.length g ∧ getF fr 3 = .int .i64 e ∧ E[a]? = some (some ob) ∧ Rw (.pb o) g ob

theorem may_len {x : Px} (h : mayR x = true) (h0 : ¬ x.len = 0) : ∃ n d : Nat, x.len = n ∧ x.dist = d ∧ 3 ≤ n ∧ n ≤ 258 ∧ 1 ≤ d := by
  unfold mayR at h
  rw [if_neg h0] at h
  simp at h
  exact ⟨x.len.toNat, x.dist.toNat, by omega, by omega, by omega, by omega, by omega⟩

set_option maxRecDepth 100000 in
/-- one piece -/
theorem ex_body {m i g : Nat} {x : Px} {o : List UInt8} {ob : AM.Obj} {E : AM.Heap} (hx : l[i]? = some x) (hl : l.length ≤ 2000) (ho : E[1]? = some (some ob)) (hw : Rw (.pb o) g ob) (hol : o.length ≤ 258 * i) (he : expF (l.drop i) o = expF l []) :
    ∃ code, ((Try.f14.body).bind (codeAt [1, 1, 0, 1, 0, 0, 1, 1])) = some code ∧ Tells (fun out => (out.ex = .normal ∧ ∃ o' g' ob', out.fr = exFr (.sl 1 0 o'.length g') c l (i + 1) ∧ out.H[1]? = some (some ob') ∧ Rw (.pb o') g' ob' ∧ o'.length ≤ 258 * (i + 1) ∧ expF (l.drop (i + 1)) o' = expF l []) ∨ (out.ex = .ret ∧ exX l out.fr out.H)) X (evT X) 14 m code (exFr (.sl 1 0 o.length g) c l i ++ [(10, .bool true)]) E := by
  refine ⟨_, rfl, ?_⟩
  have hi := ltAt hx
  have hdrop : l.drop i = x :: l.drop (i + 1) := by
    rw [List.drop_eq_getElem_cons hi]
    rw [List.getElem?_eq_getElem hi] at hx
    rw [Option.some.inj hx]
  rw [hdrop, expF] at he
  have hg := hw.g
  have hE1 := ltAt ho
  have hq : (E ++ [some (pxO x)])[E.length]? = some (some (pxO x)) := by simp
  have ho2 : (E ++ [some (pxO x)])[1]? = some (some ob) := by rw [List.getElem?_append_left hE1]; exact ho
  have hr4 := ex_r4 (m := m) (c := c) (v := .sl 1 0 o.length g) (E := E) hx (by omega)
  have hq1 : E.length ≠ 1 := by omega
  generalize E ++ [some (pxO x)] = E0 at *
  generalize E.length = q at *
  have hr5 := ex_r5 (m := m) (c := c) (l := l) (i := i) (v := .sl 1 0 o.length g) hq
  have w1 : IntKind.i64.wrap ((i : Int) + 1) = ((i + 1 : Nat) : Int) := by rw [wrap_i64 (by omega) (by omega)]; omega
  by_cases hm : mayR x = false
  · rw [if_pos hm] at he
    rw [hm] at hr5
    refine Tells.of (o := ⟨.ret, [(2, .sl E0.length 0 0 0), (3, .int .i64 2)], E0 ++ [some (⟨.pb [], 0, none, 0, true, false, 0⟩ : AM.Obj)]⟩) ?_ (.inr ⟨rfl, [], 2, E0.length, 0, _, he.symm, rfl, rfl, List.getElem?_concat_length, ⟨rfl, rfl, rfl, rfl, rfl⟩⟩)
    refine Run.seq_out ?_ (by simp)
    refine Run.block ?_ (by simp)
    apply Run.seq (piece hr4 _ rfl)
    refine Run.seq_out ?_ (by simp)
    apply Run.seq (piece hr5 _ rfl)
    refine Run.cond (d := true) (by simp [exFq, evalO, getF]) ?_
    apply Run.seq (fr' := [(2, .sl E0.length 0 0 0), (3, .int .i64 2)]) (H' := E0 ++ [some (⟨.pb [], 0, none, 0, true, false, 0⟩ : AM.Obj)])
    · simp only [exFq]
      generalize l.map pxR = R at *
      generalize l.length = N at *
      generalize o.length = K at *
      (refine ⟨0, ?_⟩; simp (maxSteps := 2000000) -implicitDefEqProofs [-getElem?_pos, List.getElem?_cons_zero, List.getElem?_cons_succ, go_sem, eqV, plen, loadV, storeV, assignV, rowOf, emBy])
    · exact ⟨0, rfl⟩
  have hmt : mayR x = true := by simpa using hm
  rw [if_neg hm] at he
  rw [hmt] at hr5
  by_cases h0 : x.len = 0
  · rw [if_pos h0] at he
    obtain ⟨ob', k1, k2⟩ := app_rw (C := X) (T := 28) (e := 5) (H := E0) (o := 1) (m := [x.byte]) (src := .ro 1 (.pb [x.byte]) 0) und28 und5 size5 bytes5 zok5 ho2 hw (.inl (by simp [srcV, payB, ptag])) (by simp; omega)
    simp only [List.length_singleton] at k2
    have hr8 := ex_r8 (m := m) (c := c) (l := l) (i := i) (tl := [(18, .bool true)]) hq k2
    refine Tells.of (o := ⟨.normal, exFr (.sl 1 0 (o.length + 1) (g + 1)) c l (i + 1), upd E0 1 (some ob')⟩) ?_ (.inl ⟨rfl, o ++ [x.byte], g + 1, ob', by simp, setAt ho2, k1, by simp; omega, he⟩)
    apply Run.seq (fr' := exFr (.sl 1 0 (o.length + 1) (g + 1)) c l i) (H' := upd E0 1 (some ob'))
    · refine Run.block_exit ?_
      apply Run.seq (piece hr4 _ rfl)
      apply Run.seq (fr' := exFq (.sl 1 0 o.length g) q c l i ++ [(15, .bool false)]) (H' := E0)
      · apply Run.seq (piece hr5 _ rfl)
        exact Run.cond (d := false) (by simp [exFq, evalO, getF]) ⟨0, rfl⟩
      refine Run.seq_out ?_ (by simp)
      apply Run.seq (fr' := exFq (.sl 1 0 o.length g) q c l i ++ [(18, .bool true)]) (H' := E0)
      · simp only [exFq, pxO, pxR, h0] at hq ⊢
        generalize l.map pxR = R at *
        generalize l.length = N at *
        generalize o.length = K at *
        (refine ⟨0, ?_⟩; simp (maxSteps := 2000000) -implicitDefEqProofs [-getElem?_pos, List.getElem?_cons_zero, List.getElem?_cons_succ, go_sem, eqV, plen, loadV, storeV, hq])
      refine Run.cond (d := true) (by simp [exFq, evalO, getF]) ?_
      exact Run.seq (piece hr8 _ rfl) ⟨0, rfl⟩
    · simp only [exFr]
      generalize l.map pxR = R at *
      generalize l.length = N at *
      generalize o.length + 1 = K at *
      generalize i + 1 = i1 at *
      (refine ⟨0, ?_⟩; simp (maxSteps := 2000000) -implicitDefEqProofs [-getElem?_pos, List.getElem?_cons_zero, List.getElem?_cons_succ, go_sem, eqV, plen, loadV, storeV, w1])
  rw [if_neg h0] at he
  obtain ⟨n, d, hn, hd, n3, n258, d1⟩ := may_len hmt h0
  have hr9 := ex_r9 (m := m) (c := c) (l := l) (i := i) (x := x) (tl := [(18, .bool false)]) hq ho2 hw
  have hr7 : ∃ code, ((Try.f14.body).bind (codeAt [1, 1, 0, 1, 0, 0, 1, 1, 0, 0, 1, 1, 0, 0])) = some code ∧ Run X (evT X) 14 m code (exFq (.sl 1 0 o.length g) q c l i ++ [(15, .bool false)]) E0 ⟨.normal, exFq (.sl 1 0 o.length g) q c l i ++ [(18, .bool false)], E0⟩ := by
    refine ⟨_, rfl, ?_⟩
    have h0b : (x.len == 0) = false := by simpa using h0
    simp only [exFq, pxO, pxR] at hq ⊢
    generalize l.map pxR = R at *
    generalize l.length = N at *
    generalize o.length = K at *
    (refine ⟨0, ?_⟩; simp (maxSteps := 2000000) -implicitDefEqProofs [-getElem?_pos, List.getElem?_cons_zero, List.getElem?_cons_succ, go_sem, eqV, plen, loadV, storeV, hq, h0, h0b])
  by_cases hbig : (o.length : Int) < x.dist
  · rw [if_pos hbig] at he
    rw [decide_eq_true hbig] at hr9
    refine Tells.of (o := ⟨.ret, [(2, .sl E0.length 0 0 0), (3, .int .i64 5)], E0 ++ [some (⟨.pb [], 0, none, 0, true, false, 0⟩ : AM.Obj)]⟩) ?_ (.inr ⟨rfl, [], 5, E0.length, 0, _, he.symm, rfl, rfl, List.getElem?_concat_length, ⟨rfl, rfl, rfl, rfl, rfl⟩⟩)
    refine Run.seq_out ?_ (by simp)
    refine Run.block ?_ (by simp)
    apply Run.seq (piece hr4 _ rfl)
    apply Run.seq (fr' := exFq (.sl 1 0 o.length g) q c l i ++ [(15, .bool false)]) (H' := E0)
    · apply Run.seq (piece hr5 _ rfl)
      exact Run.cond (d := false) (by simp [exFq, evalO, getF]) ⟨0, rfl⟩
    apply Run.seq (fr' := exFq (.sl 1 0 o.length g) q c l i ++ [(18, .bool false)]) (H' := E0)
    · apply Run.seq (piece hr7 _ rfl)
      exact Run.cond (d := false) (by simp [exFq, evalO, getF]) ⟨0, rfl⟩
    refine Run.seq_out ?_ (by simp)
    apply Run.seq (piece hr9 _ rfl)
    refine Run.cond (d := true) (by simp [exFq, evalO, getF]) ?_
    apply Run.seq (fr' := [(2, .sl E0.length 0 0 0), (3, .int .i64 5)]) (H' := E0 ++ [some (⟨.pb [], 0, none, 0, true, false, 0⟩ : AM.Obj)])
    · simp only [exFq]
      generalize l.map pxR = R at *
      generalize l.length = N at *
      generalize o.length = K at *
      (refine ⟨0, ?_⟩; simp (maxSteps := 2000000) -implicitDefEqProofs [-getElem?_pos, List.getElem?_cons_zero, List.getElem?_cons_succ, go_sem, eqV, plen, loadV, storeV, assignV, rowOf, emBy])
    · exact ⟨0, rfl⟩
  rw [if_neg hbig, hn, hd] at he
  simp only [Int.toNat_natCast] at he
  rw [decide_eq_false hbig] at hr9
  have hcl := copyB_len d n o
  obtain ⟨codeB, hcB, ⟨⟨ex, fr, E2⟩, ⟨he2, g', ob', hfr, ho', hw'⟩, hrB⟩⟩ := ex_copy (m := m) (c := c) (l := l) (i := i) (n := n) hq hq1 hd d1 (by omega) ho2 hw (by omega)
  simp only at he2 hfr ho'
  subst he2
  refine Tells.of (o := ⟨.normal, exFr (.sl 1 0 (copyB d n o).length g') c l (i + 1), E2⟩) ?_ (.inl ⟨rfl, copyB d n o, g', ob', rfl, ho', hw', by rw [hcl]; omega, he⟩)
  apply Run.seq (fr' := fr) (H' := E2)
  · refine Run.block ?_ (by simp)
    apply Run.seq (piece hr4 _ rfl)
    apply Run.seq (fr' := exFq (.sl 1 0 o.length g) q c l i ++ [(15, .bool false)]) (H' := E0)
    · apply Run.seq (piece hr5 _ rfl)
      exact Run.cond (d := false) (by simp [exFq, evalO, getF]) ⟨0, rfl⟩
    apply Run.seq (fr' := exFq (.sl 1 0 o.length g) q c l i ++ [(18, .bool false)]) (H' := E0)
    · apply Run.seq (piece hr7 _ rfl)
      exact Run.cond (d := false) (by simp [exFq, evalO, getF]) ⟨0, rfl⟩
    apply Run.seq (fr' := exFq (.sl 1 0 o.length g) q c l i ++ [(28, .bool false)]) (H' := E0)
    · apply Run.seq (piece hr9 _ rfl)
      exact Run.cond (d := false) (by simp [exFq, evalO, getF]) ⟨0, rfl⟩
    apply Run.seq (fr' := exFc (.sl 1 0 o.length g) q c l i n 0) (H' := E0)
    · simp only [exFq, exFc, pxO, pxR, hn] at hq ⊢
      generalize l.map pxR = R at *
      generalize l.length = N at *
      generalize o.length = K at *
      (refine ⟨0, ?_⟩; simp (maxSteps := 2000000) -implicitDefEqProofs [-getElem?_pos, List.getElem?_cons_zero, List.getElem?_cons_succ, go_sem, eqV, plen, loadV, storeV, hq])
    · exact (Option.some.inj hcB) ▸ hrB
  · have g4 : getF fr 4 = .sl 1 0 (copyB d n o).length g' := by simpa [keepF, exFr, getF] using congrArg (fun f => getF f 4) hfr
    have g7 : getF fr 7 = .ro c (.pr 3 (l.map pxR)) 1 := by simpa [keepF, exFr, getF] using congrArg (fun f => getF f 7) hfr
    have g8 : getF fr 8 = .int .i64 (l.length : Nat) := by simpa [keepF, exFr, getF] using congrArg (fun f => getF f 8) hfr
    have g9 : getF fr 9 = .int .i64 (i : Nat) := by simpa [keepF, exFr, getF] using congrArg (fun f => getF f 9) hfr
    simp only [exFr]
    generalize l.map pxR = R at *
    generalize l.length = N at *
    generalize (copyB d n o).length = K at *
    generalize i + 1 = i1 at *
    (refine ⟨0, ?_⟩; simp (maxSteps := 2000000) -implicitDefEqProofs [-getElem?_pos, List.getElem?_cons_zero, List.getElem?_cons_succ, go_sem, eqV, plen, loadV, storeV, g4, g7, g8, g9, w1])

end

end Go.Proofs.Yteblpjhkgdpchaa

/- Events: Expand. -/
namespace Go.Proofs.Yteblpjhkgdpchaa
open Go.AM
set_option linter.unusedSimpArgs false
set_option linter.unusedVariables false

section
variable {c : Nat} {l : List Px}

set_option maxRecDepth 100000 in
theorem expand_code {m : Nat} (hl : l.length ≤ 2000) : ∃ code, Try.f14.body = some code ∧ Tells (Rets (exX l)) X (evT X) 14 m code [(0, .ro c (.pr 3 (l.map pxR)) 1)] [] := by
  refine ⟨_, rfl, ?_⟩
  apply Tells.seq (fr' := [(0, .ro c (.pr 3 (l.map pxR)) 1)]) (H' := [some (⟨.pb [], 0, none, 0, true, false, 0⟩ : AM.Obj)])
  · generalize l.map pxR = R at *
    (refine ⟨0, ?_⟩; simp (maxSteps := 2000000) -implicitDefEqProofs [-getElem?_pos, List.getElem?_cons_zero, List.getElem?_cons_succ, go_sem, eqV, plen, loadV, storeV, assignV, rowOf, emBy])
  apply Tells.seq (fr' := [(0, .ro c (.pr 3 (l.map pxR)) 1), (4, .sl 1 0 0 0)]) (H' := [some (⟨.pb [], 0, none, 0, true, false, 0⟩ : AM.Obj), some (⟨.pb [], 0, none, 0, true, false, 0⟩ : AM.Obj)])
  · generalize l.map pxR = R at *
    (refine ⟨0, ?_⟩; simp (maxSteps := 2000000) -implicitDefEqProofs [-getElem?_pos, List.getElem?_cons_zero, List.getElem?_cons_succ, go_sem, eqV, plen, loadV, storeV, assignV, rowOf, emBy])
  have hE : ([some (⟨.pb [], 0, none, 0, true, false, 0⟩ : AM.Obj), some (⟨.pb [], 0, none, 0, true, false, 0⟩ : AM.Obj)] : AM.Heap)[1]? = some (some ⟨.pb [], 0, none, 0, true, false, 0⟩) := rfl
  generalize [some (⟨.pb [], 0, none, 0, true, false, 0⟩ : AM.Obj), some (⟨.pb [], 0, none, 0, true, false, 0⟩ : AM.Obj)] = E0 at *
  apply Tells.assoc
  apply Tells.seq (fr' := exFr (.sl 1 0 0 0) c l 0) (H' := E0)
  · have hll : (l.map pxR).length = l.length := by simp
    simp only [exFr]
    generalize l.map pxR = R at *
    generalize l.length = N at *
    (refine ⟨0, ?_⟩; simp (maxSteps := 2000000) -implicitDefEqProofs [-getElem?_pos, List.getElem?_cons_zero, List.getElem?_cons_succ, go_sem, eqV, plen, loadV, storeV, hll])
  refine Tells.blockThen (P := fun fr E => ∃ o g ob, expF l [] = (o, 0) ∧ getF fr 4 = .sl 1 0 o.length g ∧ E[1]? = some (some ob) ∧ Rw (.pb o) g ob) ?_ ?_
  · refine Tells.loopP (I := fun k fr E' => ∃ i o g ob, i ≤ l.length ∧ k = l.length - i ∧ fr = exFr (.sl 1 0 o.length g) c l i ∧ E'[1]? = some (some ob) ∧ Rw (.pb o) g ob ∧ o.length ≤ 258 * i ∧ expF (l.drop i) o = expF l []) ?_ (k := l.length) ⟨0, [], 0, _, by omega, rfl, rfl, hE, ⟨rfl, rfl, rfl, rfl, rfl⟩, by simp, rfl⟩
    rintro k fr E' ⟨i, o, g, ob, hi, rfl, rfl, ho, hw, hol, he⟩
    by_cases hin : i = l.length
    · rw [List.drop_of_length_le (by omega), expF] at he
      refine Tells.of (o := ⟨.exit 0, exFr (.sl 1 0 o.length g) c l i ++ [(10, .bool false)], E'⟩) ?_ (.inr ⟨by simp, .inl ⟨rfl, o, g, ob, he.symm, by simp [exFr, getF], ho, hw⟩⟩)
      subst hin
      refine ⟨0, ?_⟩
      simp only [exFr]
      generalize l.map pxR = R at *
      generalize l.length = N at *
      generalize o.length = K at *
      simp (maxSteps := 2000000) -implicitDefEqProofs [-getElem?_pos, List.getElem?_cons_zero, List.getElem?_cons_succ, go_sem, eqV, plen, loadV, storeV]
    · have hlt : i < l.length := by omega
      have hltI : (i : Int) < (l.length : Int) := by omega
      obtain ⟨x, hx⟩ : ∃ x, l[i]? = some x := ⟨_, List.getElem?_eq_getElem hlt⟩
      apply Tells.seq (fr' := exFr (.sl 1 0 o.length g) c l i ++ [(10, .bool true)]) (H' := E')
      · simp only [exFr]
        generalize l.map pxR = R at *
        generalize l.length = N at *
        generalize o.length = K at *
        (refine ⟨0, ?_⟩; simp (maxSteps := 2000000) -implicitDefEqProofs [-getElem?_pos, List.getElem?_cons_zero, List.getElem?_cons_succ, go_sem, eqV, plen, loadV, storeV, hltI, hlt])
      apply Tells.seq (fr' := exFr (.sl 1 0 o.length g) c l i ++ [(10, .bool true)]) (H' := E')
      · exact Run.cond (d := true) (by simp [exFr, evalO, getF]) ⟨0, rfl⟩
      refine (piece (ex_body (m := m) (c := c) hx hl ho hw hol he) _ rfl).mono ?_
      rintro out (⟨h1, o', g', ob', h2, h3, h4, h5, h6⟩ | ⟨h1, h2⟩)
      · exact .inl ⟨h1, l.length - (i + 1), by omega, i + 1, o', g', ob', by omega, rfl, h2, h3, h4, h5, h6⟩
      · exact .inr ⟨by rw [h1]; simp, .inr ⟨h1, h1, h2⟩⟩
  · rintro fr E' ⟨o, g, ob, he, h4, ho, hw⟩
    refine Tells.of (o := ⟨.ret, [(2, .sl 1 0 o.length g), (3, .int .i64 0)], E'⟩) ?_ ⟨rfl, o, 0, 1, g, ob, he, rfl, rfl, ho, hw⟩
    refine ⟨0, ?_⟩
    generalize o.length = K at *
    simp (maxSteps := 2000000) -implicitDefEqProofs [-getElem?_pos, List.getElem?_cons_zero, List.getElem?_cons_succ, go_sem, eqV, plen, loadV, storeV, h4, assignV]

theorem expand_ev {H : AM.Heap} {a : AV} (ha : payOf H a = some (.pr 3 (l.map pxR))) (hl : l.length ≤ 2000) : ∃ ob, Rw (.pb (expF l []).1) 0 ob ∧ evT X 14 [a] H = some (.tup [.sl H.length 0 (expF l []).1.length 0, .int .i64 (expF l []).2], H ++ [some ob]) := by
  obtain ⟨c, x, hx⟩ := args_pay (C := X) (f := 14) (i := 0) rfl ha (args_nil 1)
  obtain ⟨code, hc, ⟨out, ⟨ho, o, e, a2, g, ob, h1, h2, h3, h4, hw⟩, hrun⟩⟩ := expand_code (m := 0) (c := c) (l := l) hl
  rw [h1]
  obtain ⟨ob', q1, q2⟩ := Ev1.newB (C := X) (H := H) (evT_below X) (n := o.length) (l := o) (rest := [.int .i64 e]) Try.func14 hc hx rfl (by simp [gtag]) rfl rfl rfl (by
    rw [par14]
    refine ⟨out, ⟨ho, a2, g, ob, ?_, h4, hw⟩, hrun⟩
    show resultsV X out.fr out.H [.tmp 2, .tmp 3] = _
    simp [resultsV, h2, h3])
  exact ⟨ob', q1, evT_eq (by simpa [resultV, noTups] using q2)⟩

end

end Go.Proofs.Yteblpjhkgdpchaa

/- Walks: length. -/
namespace Go.Proofs.Yteblpjhkgdpchaa
open Go.AM
set_option linter.unusedSimpArgs false
set_option linter.unusedVariables false

/-- a symbol, its base, its bits, gone through in order: per of them have as many bits -/
def gF (per n : Nat) : Nat → Nat → Nat → Nat → Nat → Nat × Nat × Nat
  | 0, s, base, bits, _ => (s, base, bits)
  | f + 1, s, base, bits, j => if j = per then gF per n f s base (bits + 1) 0 else if n < base + 2 ^ bits then (s, base, bits) else gF per n f (s + 1) (base + 2 ^ bits) bits (j + 1)
def gOk (per n : Nat) : Nat → Nat → Nat → Nat → Nat → Bool
  | 0, _, _, _, _ => false
  | f + 1, s, base, bits, j => if j = per then gOk per n f s base (bits + 1) 0 else if n < base + 2 ^ bits then true else gOk per n f (s + 1) (base + 2 ^ bits) bits (j + 1)

def lnFr (n s base bits : Nat) : AM.Frame := [(0, .int .i64 (n : Nat)), (2, .int .i64 (s : Nat)), (3, .int .i64 (base : Nat)), (4, .int .i64 (bits : Nat))]

theorem shl_eq {bits : Nat} (h : bits ≤ 40) : IntKind.i64.wrap (2 ^ min bits 64) = ((2 ^ bits : Nat) : Int) := by
  rw [Nat.min_eq_left (by omega)]
  have h1 : 2 ^ bits ≤ 2 ^ 40 := Nat.pow_le_pow_right (by omega) h
  have h2 : (2 : Int) ^ bits = ((2 ^ bits : Nat) : Int) := by push_cast; rfl
  rw [h2]
  generalize 2 ^ bits = u at *
  exact wrap_i64 (by omega) (by omega)

set_option maxRecDepth 100000 in
/-- one symbol looked at -/
theorem ln_step {m n s base bits j : Nat} {E : AM.Heap} (hn : n ≤ 100000) (hs : s ≤ 1000) (hbits : bits ≤ 40) (hb : base ≤ n + 100000) (hj : j < 4) :
    ∃ code, ((Try.f33.body).bind (codeAt [1, 1, 1, 1, 1, 0, 0, 0, 0, 1, 0, 0, 1, 1])) = some code ∧ Run X (evT X) 33 m code (lnFr n s base bits ++ [(15, .int .i64 (j : Nat)), (16, .bool true)]) E (if n < base + 2 ^ bits then ⟨.ret, [(2, .int .i64 (s : Nat)), (3, .int .i64 (base : Nat)), (4, .int .i64 (bits : Nat))], E⟩ else ⟨.normal, lnFr n (s + 1) (base + 2 ^ bits) bits ++ [(15, .int .i64 (j + 1 : Nat))], E⟩) := by
  refine ⟨_, rfl, ?_⟩
  have h1 : 2 ^ bits ≤ 2 ^ 40 := Nat.pow_le_pow_right (by omega) hbits
  have hp := shl_eq hbits
  generalize 2 ^ bits = pw at *
  have hb0 : ¬ (bits : Int) < 0 := by omega
  have w1 : IntKind.i64.wrap ((base : Int) + ((pw : Nat) : Int)) = ((base + pw : Nat) : Int) := by rw [wrap_i64 (by omega) (by omega)]; omega
  have w2 : IntKind.i64.wrap ((s : Int) + 1) = ((s + 1 : Nat) : Int) := by rw [wrap_i64 (by omega) (by omega)]; omega
  have w3 : IntKind.i64.wrap ((j : Int) + 1) = ((j + 1 : Nat) : Int) := by rw [wrap_i64 (by omega) (by omega)]; omega
  by_cases h : n < base + pw
  · rw [if_pos h]
    have hI : (n : Int) < ((base + pw : Nat) : Int) := by omega
    generalize base + pw = nb at *
    refine Run.seq_out ?_ (by simp)
    refine Run.block ?_ (by simp)
    refine Run.seq_out ?_ (by simp)
    apply Run.seq (fr' := lnFr n s base bits ++ [(15, .int .i64 (j : Nat)), (22, .bool true)]) (H' := E)
    · simp only [lnFr]
      (refine ⟨0, ?_⟩; simp (maxSteps := 2000000) -implicitDefEqProofs [-getElem?_pos, List.getElem?_cons_zero, List.getElem?_cons_succ, go_sem, eqV, plen, loadV, storeV, hp, hb0, w1, hI, h])
    refine Run.cond (d := true) (by simp [lnFr, evalO, getF]) ?_
    apply Run.seq (fr' := [(2, .int .i64 (s : Nat)), (3, .int .i64 (base : Nat)), (4, .int .i64 (bits : Nat))]) (H' := E)
    · simp only [lnFr]
      (refine ⟨0, ?_⟩; simp (maxSteps := 2000000) -implicitDefEqProofs [-getElem?_pos, List.getElem?_cons_zero, List.getElem?_cons_succ, go_sem, eqV, plen, loadV, storeV, assignV])
    · exact ⟨0, rfl⟩
  · rw [if_neg h]
    have hI : ¬ (n : Int) < ((base + pw : Nat) : Int) := by omega
    generalize base + pw = nb at *
    generalize s + 1 = s1 at *
    generalize j + 1 = j1 at *
    apply Run.seq (fr' := lnFr n s1 nb bits ++ [(15, .int .i64 (j : Nat))]) (H' := E)
    · refine Run.block ?_ (by simp)
      apply Run.seq (fr' := lnFr n s base bits ++ [(15, .int .i64 (j : Nat)), (22, .bool false)]) (H' := E)
      · apply Run.seq (fr' := lnFr n s base bits ++ [(15, .int .i64 (j : Nat)), (22, .bool false)]) (H' := E)
        · simp only [lnFr]
          (refine ⟨0, ?_⟩; simp (maxSteps := 2000000) -implicitDefEqProofs [-getElem?_pos, List.getElem?_cons_zero, List.getElem?_cons_succ, go_sem, eqV, plen, loadV, storeV, hp, hb0, w1, hI, h])
        · exact Run.cond (d := false) (by simp [lnFr, evalO, getF]) ⟨0, rfl⟩
      · simp only [lnFr]
        (refine ⟨0, ?_⟩; simp (maxSteps := 2000000) -implicitDefEqProofs [-getElem?_pos, List.getElem?_cons_zero, List.getElem?_cons_succ, go_sem, eqV, plen, loadV, storeV, hp, hb0, w1, w2, assignV])
    · simp only [lnFr]
      (refine ⟨0, ?_⟩; simp (maxSteps := 2000000) -implicitDefEqProofs [-getElem?_pos, List.getElem?_cons_zero, List.getElem?_cons_succ, go_sem, eqV, plen, loadV, storeV, w3])

def lnR (R : Nat × Nat × Nat) : AM.Frame := [(2, .int .i64 (R.1 : Nat)), (3, .int .i64 (R.2.1 : Nat)), (4, .int .i64 (R.2.2 : Nat))]

set_option maxRecDepth 100000 in
/-- the symbols of as many bits -/
theorem ln_in {m n s base bits f : Nat} {R : Nat × Nat × Nat} {E : AM.Heap} (hn : n ≤ 100000) (hs : s + f ≤ 900) (hbits : bits + f ≤ 41) (hb : base ≤ n + 100000) (hok : gOk 4 n f s base bits 0 = true) (hR : gF 4 n f s base bits 0 = R) :
    ∃ code, ((Try.f33.body).bind (codeAt [1, 1, 1, 1, 1, 0, 0, 0, 0, 1])) = some code ∧ Tells (fun o => (o.ex = .normal ∧ o.H = E ∧ ∃ s' base' f', f' < f ∧ s' + f' ≤ 900 ∧ bits + 1 + f' ≤ 41 ∧ base' ≤ n + 100000 ∧ keepF [0, 2, 3, 4] o.fr = lnFr n s' base' bits ∧ gOk 4 n f' s' base' (bits + 1) 0 = true ∧ gF 4 n f' s' base' (bits + 1) 0 = R) ∨ (o.ex = .ret ∧ o.fr = lnR R ∧ o.H = E)) X (evT X) 33 m code (lnFr n s base bits ++ [(15, .int .i64 (0 : Nat))]) E := by
  refine ⟨_, rfl, ?_⟩
  refine Tells.mono (Tells.blockOr (P := fun fr H => H = E ∧ ∃ s' base' f', f' < f ∧ s' + f' ≤ 900 ∧ bits + 1 + f' ≤ 41 ∧ base' ≤ n + 100000 ∧ keepF [0, 2, 3, 4] fr = lnFr n s' base' bits ∧ gOk 4 n f' s' base' (bits + 1) 0 = true ∧ gF 4 n f' s' base' (bits + 1) 0 = R) (Q := fun o => o.ex = .ret ∧ o.fr = lnR R ∧ o.H = E) ?_) ?_
  · refine Tells.loopP (I := fun k fr H => ∃ s' base' j, k ≤ f ∧ s' + k ≤ 900 ∧ base' ≤ n + 100000 ∧ j ≤ 4 ∧ fr = lnFr n s' base' bits ++ [(15, .int .i64 (j : Nat))] ∧ H = E ∧ gOk 4 n k s' base' bits j = true ∧ gF 4 n k s' base' bits j = R) ?_ (k := f) ⟨s, base, 0, by omega, hs, hb, by omega, rfl, rfl, hok, hR⟩
    rintro k fr H ⟨s', base', j, hk, hsk, hb', hj, rfl, rfl, hok', hR'⟩
    cases k with
    | zero => simp [gOk] at hok'
    | succ k =>
      rw [gOk] at hok'
      rw [gF] at hR'
      by_cases hj4 : j = 4
      · subst hj4
        rw [if_pos rfl] at hok' hR'
        refine Tells.of (o := ⟨.exit 2, lnFr n s' base' bits ++ [(15, .int .i64 (4 : Nat)), (16, .bool false)], H⟩) ?_ (.inr ⟨by simp, .inl ⟨rfl, rfl, s', base', k, by omega, by omega, by omega, hb', by simp [lnFr, keepF, getF], hok', hR'⟩⟩)
        refine ⟨0, ?_⟩
        simp only [lnFr]
        simp (maxSteps := 2000000) -implicitDefEqProofs [-getElem?_pos, List.getElem?_cons_zero, List.getElem?_cons_succ, go_sem, eqV, plen, loadV, storeV]
      · rw [if_neg hj4] at hok' hR'
        have hjl : j < 4 := by omega
        have hjI : (j : Int) < 4 := by omega
        have hst := ln_step (m := m) (E := H) (s := s') (base := base') (bits := bits) (j := j) hn (by omega) (by omega) hb' hjl
        by_cases hlt : n < base' + 2 ^ bits
        · rw [if_pos hlt] at hok' hR' hst
          subst hR'
          refine Tells.of (o := ⟨.ret, lnR (s', base', bits), H⟩) ?_ (.inr ⟨by simp, .inr ⟨rfl, rfl, rfl, rfl⟩⟩)
          apply Run.seq (fr' := lnFr n s' base' bits ++ [(15, .int .i64 (j : Nat)), (16, .bool true)]) (H' := H)
          · simp only [lnFr]
            (refine ⟨0, ?_⟩; simp (maxSteps := 2000000) -implicitDefEqProofs [-getElem?_pos, List.getElem?_cons_zero, List.getElem?_cons_succ, go_sem, eqV, plen, loadV, storeV, hjI, hjl])
          apply Run.seq (fr' := lnFr n s' base' bits ++ [(15, .int .i64 (j : Nat)), (16, .bool true)]) (H' := H)
          · exact Run.cond (d := true) (by simp [lnFr, evalO, getF]) ⟨0, rfl⟩
          exact piece hst _ rfl
        · rw [if_neg hlt] at hok' hR' hst
          refine Tells.of (o := ⟨.normal, lnFr n (s' + 1) (base' + 2 ^ bits) bits ++ [(15, .int .i64 (j + 1 : Nat))], H⟩) ?_ (.inl ⟨rfl, k, by omega, s' + 1, base' + 2 ^ bits, j + 1, by omega, by omega, by omega, by omega, rfl, rfl, hok', hR'⟩)
          apply Run.seq (fr' := lnFr n s' base' bits ++ [(15, .int .i64 (j : Nat)), (16, .bool true)]) (H' := H)
          · simp only [lnFr]
            (refine ⟨0, ?_⟩; simp (maxSteps := 2000000) -implicitDefEqProofs [-getElem?_pos, List.getElem?_cons_zero, List.getElem?_cons_succ, go_sem, eqV, plen, loadV, storeV, hjI, hjl])
          apply Run.seq (fr' := lnFr n s' base' bits ++ [(15, .int .i64 (j : Nat)), (16, .bool true)]) (H' := H)
          · exact Run.cond (d := true) (by simp [lnFr, evalO, getF]) ⟨0, rfl⟩
          exact piece hst _ rfl
  · rintro o (⟨h1, h2⟩ | ⟨h1, h2⟩)
    · exact .inl ⟨h1, h2⟩
    · exact .inr h2

/-- a length's symbol, its base, its bits -/
def lenOf (n : Nat) : Nat × Nat × Nat := if n = 258 then (285, n, 0) else if n ≤ 10 then (254 + n, n, 0) else gF 4 n 40 265 11 1 0

theorem gOk_mono {per n n' : Nat} (h : n ≤ n') : ∀ (f s base bits j : Nat), gOk per n' f s base bits j = true → gOk per n f s base bits j = true
  | 0, _, _, _, _, h1 => by cases h1
  | f + 1, s, base, bits, j, h1 => by
    unfold gOk at h1 ⊢
    split
    · rename_i hj
      rw [if_pos hj] at h1
      exact gOk_mono h f _ _ _ _ h1
    · rename_i hj
      rw [if_neg hj] at h1
      split
      · rfl
      · rename_i hn
        rw [if_neg (by omega)] at h1
        exact gOk_mono h f _ _ _ _ h1
theorem len_ok {n : Nat} (h : n ≤ 258) : gOk 4 n 40 265 11 1 0 = true := gOk_mono h _ _ _ _ _ (by decide +kernel)

set_option maxRecDepth 100000 in
theorem length_code {m n : Nat} {E : AM.Heap} (h : n ≤ 258) : ∃ code, Try.f33.body = some code ∧ Tells (fun o => o.ex = .ret ∧ o.fr = lnR (lenOf n) ∧ o.H = E) X (evT X) 33 m code [(0, .int .i64 (n : Nat))] E := by
  refine ⟨_, rfl, ?_⟩
  unfold lenOf
  apply Tells.seq (fr' := [(0, .int .i64 (n : Nat))]) (H' := E)
  · (refine ⟨0, ?_⟩; simp (maxSteps := 2000000) -implicitDefEqProofs [-getElem?_pos, List.getElem?_cons_zero, List.getElem?_cons_succ, go_sem, eqV, plen, loadV, storeV, assignV])
  by_cases h1 : n = 258
  · subst h1
    rw [if_pos rfl]
    refine Tells.of (o := ⟨.ret, lnR (285, 258, 0), E⟩) ?_ ⟨rfl, rfl, rfl⟩
    refine ⟨0, ?_⟩
    simp only [lnR]
    simp (maxSteps := 2000000) -implicitDefEqProofs [-getElem?_pos, List.getElem?_cons_zero, List.getElem?_cons_succ, go_sem, eqV, plen, loadV, storeV, assignV]
  have h1I : ¬ (n : Int) = 258 := by omega
  have h1b : ((n : Int) == 258) = false := by simpa using h1I
  rw [if_neg h1]
  apply Tells.assoc
  apply Tells.seq (fr' := [(0, .int .i64 (n : Nat)), (6, .bool false)]) (H' := E)
  · (refine ⟨0, ?_⟩; simp (maxSteps := 2000000) -implicitDefEqProofs [-getElem?_pos, List.getElem?_cons_zero, List.getElem?_cons_succ, go_sem, eqV, plen, loadV, storeV, h1, h1I, h1b])
  apply Tells.seq (fr' := [(0, .int .i64 (n : Nat)), (6, .bool false)]) (H' := E)
  · exact Run.cond (d := false) (by simp [evalO, getF]) ⟨0, rfl⟩
  by_cases h2 : n ≤ 10
  · rw [if_pos h2]
    have h2I : (n : Int) ≤ 10 := by omega
    have w1 : IntKind.i64.wrap (254 + (n : Int)) = ((254 + n : Nat) : Int) := by rw [wrap_i64 (by omega) (by omega)]; omega
    refine Tells.of (o := ⟨.ret, lnR (254 + n, n, 0), E⟩) ?_ ⟨rfl, rfl, rfl⟩
    refine ⟨0, ?_⟩
    simp only [lnR]
    generalize 254 + n = s at *
    simp (maxSteps := 2000000) -implicitDefEqProofs [-getElem?_pos, List.getElem?_cons_zero, List.getElem?_cons_succ, go_sem, eqV, plen, loadV, storeV, h2, h2I, w1, assignV]
  rw [if_neg h2]
  have h2I : ¬ (n : Int) ≤ 10 := by omega
  apply Tells.assoc
  apply Tells.seq (fr' := [(0, .int .i64 (n : Nat)), (9, .bool false)]) (H' := E)
  · (refine ⟨0, ?_⟩; simp (maxSteps := 2000000) -implicitDefEqProofs [-getElem?_pos, List.getElem?_cons_zero, List.getElem?_cons_succ, go_sem, eqV, plen, loadV, storeV, h2, h2I])
  apply Tells.seq (fr' := [(0, .int .i64 (n : Nat)), (9, .bool false)]) (H' := E)
  · exact Run.cond (d := false) (by simp [evalO, getF]) ⟨0, rfl⟩
  apply Tells.seq (fr' := [(0, .int .i64 (n : Nat)), (2, .int .i64 265), (3, .int .i64 11)]) (H' := E)
  · (refine ⟨0, ?_⟩; simp (maxSteps := 2000000) -implicitDefEqProofs [-getElem?_pos, List.getElem?_cons_zero, List.getElem?_cons_succ, go_sem, eqV, plen, loadV, storeV, assignV])
  apply Tells.seq (fr' := lnFr n 265 11 1) (H' := E)
  · simp only [lnFr]
    (refine ⟨0, ?_⟩; simp (maxSteps := 2000000) -implicitDefEqProofs [-getElem?_pos, List.getElem?_cons_zero, List.getElem?_cons_succ, go_sem, eqV, plen, loadV, storeV, assignV])
  refine Tells.blk ?_ (fun o ho => by rw [ho.1]; simp)
  refine Tells.loopP (I := fun k fr H => ∃ s base bits, s + k ≤ 900 ∧ bits + k ≤ 41 ∧ base ≤ n + 100000 ∧ fr = lnFr n s base bits ∧ H = E ∧ gOk 4 n k s base bits 0 = true ∧ gF 4 n k s base bits 0 = gF 4 n 40 265 11 1 0) ?_ (k := 40) ⟨265, 11, 1, by omega, by omega, by omega, rfl, rfl, len_ok h, rfl⟩
  rintro k fr H ⟨s, base, bits, hs, hbits, hb, rfl, rfl, hok, hR⟩
  generalize gF 4 n 40 265 11 1 0 = R at *
  have h8 : ∃ code, ((Try.f33.body).bind (codeAt [1, 1, 1, 1, 1, 0, 0, 0, 0, 0])) = some code ∧ Run X (evT X) 33 m code (lnFr n s base bits) H ⟨.normal, lnFr n s base bits ++ [(15, .int .i64 (0 : Nat))], H⟩ := by
    refine ⟨_, rfl, ?_⟩
    simp only [lnFr]
    (refine ⟨0, ?_⟩; simp (maxSteps := 2000000) -implicitDefEqProofs [-getElem?_pos, List.getElem?_cons_zero, List.getElem?_cons_succ, go_sem, eqV, plen, loadV, storeV])
  obtain ⟨codeB, hcB, ⟨ex, fr, H2⟩, hq, hrB⟩ := ln_in (m := m) (E := H) (by omega) hs hbits hb hok hR
  rcases hq with ⟨h3, h4, s', base', f', k1, k2, k3, k4, k5, k6, k7⟩ | ⟨h3, h4, h5⟩
  · simp only at h3 h4 k5
    subst h3 h4
    have g0 : getF fr 0 = .int .i64 (n : Nat) := by simpa [keepF, lnFr, getF] using congrArg (fun f => getF f 0) k5
    have g2 : getF fr 2 = .int .i64 (s' : Nat) := by simpa [keepF, lnFr, getF] using congrArg (fun f => getF f 2) k5
    have g3 : getF fr 3 = .int .i64 (base' : Nat) := by simpa [keepF, lnFr, getF] using congrArg (fun f => getF f 3) k5
    have g4 : getF fr 4 = .int .i64 (bits : Nat) := by simpa [keepF, lnFr, getF] using congrArg (fun f => getF f 4) k5
    refine Tells.of (o := ⟨.normal, lnFr n s' base' (bits + 1), H2⟩) ?_ (.inl ⟨rfl, f', k1, s', base', bits + 1, k2, k3, k4, rfl, rfl, k6, k7⟩)
    apply Run.seq (fr' := fr) (H' := H2)
    · refine Run.block ?_ (by simp)
      exact Run.seq (piece h8 _ rfl) ((Option.some.inj hcB) ▸ hrB)
    · have w1 : IntKind.i64.wrap ((bits : Int) + 1) = ((bits + 1 : Nat) : Int) := by rw [wrap_i64 (by omega) (by omega)]; omega
      generalize bits + 1 = b1 at *
      simp only [lnFr]
      (refine ⟨0, ?_⟩; simp (maxSteps := 2000000) -implicitDefEqProofs [-getElem?_pos, List.getElem?_cons_zero, List.getElem?_cons_succ, go_sem, eqV, plen, loadV, storeV, g0, g2, g3, g4, w1, assignV])
  · simp only at h3 h4 h5
    subst h3 h4 h5
    refine Tells.of (o := ⟨.ret, lnR R, H2⟩) ?_ (.inr ⟨by simp, rfl, rfl, rfl⟩)
    refine Run.seq_out ?_ (by simp)
    refine Run.block ?_ (by simp)
    exact Run.seq (piece h8 _ rfl) ((Option.some.inj hcB) ▸ hrB)

theorem length_ev {n : Nat} {H : AM.Heap} (h : n ≤ 258) : evT X 33 [.int .i64 (n : Nat)] H = some (.tup [.int .i64 ((lenOf n).1 : Nat), .int .i64 ((lenOf n).2.1 : Nat), .int .i64 ((lenOf n).2.2 : Nat)], H) := by
  obtain ⟨code, hc, ⟨out, ⟨h1, h2, h3⟩, hr⟩⟩ := length_code (m := 0) (E := []) h
  have hx := args_flat (C := X) (f := 33) (i := 0) (a := .int .i64 (n : Nat)) (H := H) rfl rfl (args_nil 1)
  refine evT_eq (Ev1.toldP (l := [.int .i64 ((lenOf n).1 : Nat), .int .i64 ((lenOf n).2.1 : Nat), .int .i64 ((lenOf n).2.2 : Nat)]) (evT_below X) Try.func33 hc hx rfl (by simp [gtag]) rfl rfl rfl ?_)
  rw [par33]
  refine ⟨out, ⟨h1, ?_⟩, hr⟩
  show resultsV X out.fr out.H [.tmp 2, .tmp 3, .tmp 4] = _
  rw [h2]
  rfl

end Go.Proofs.Yteblpjhkgdpchaa

/- Walks, events: distance. -/
namespace Go.Proofs.Yteblpjhkgdpchaa
open Go.AM
set_option linter.unusedSimpArgs false
set_option linter.unusedVariables false

set_option maxRecDepth 100000 in
/-- one symbol looked at -/
theorem di_step {m n s base bits j : Nat} {E : AM.Heap} (hn : n ≤ 100000) (hs : s ≤ 1000) (hbits : bits ≤ 40) (hb : base ≤ n + 100000) (hj : j < 2) :
    ∃ code, ((Try.f34.body).bind (codeAt [1, 1, 1, 1, 0, 0, 0, 0, 1, 0, 0, 1, 1])) = some code ∧ Run X (evT X) 34 m code (lnFr n s base bits ++ [(12, .int .i64 (j : Nat)), (13, .bool true)]) E (if n < base + 2 ^ bits then ⟨.ret, [(2, .int .i64 (s : Nat)), (3, .int .i64 (base : Nat)), (4, .int .i64 (bits : Nat))], E⟩ else ⟨.normal, lnFr n (s + 1) (base + 2 ^ bits) bits ++ [(12, .int .i64 (j + 1 : Nat))], E⟩) := by
  refine ⟨_, rfl, ?_⟩
  have h1 : 2 ^ bits ≤ 2 ^ 40 := Nat.pow_le_pow_right (by omega) hbits
  have hp := shl_eq hbits
  generalize 2 ^ bits = pw at *
  have hb0 : ¬ (bits : Int) < 0 := by omega
  have w1 : IntKind.i64.wrap ((base : Int) + ((pw : Nat) : Int)) = ((base + pw : Nat) : Int) := by rw [wrap_i64 (by omega) (by omega)]; omega
  have w2 : IntKind.i64.wrap ((s : Int) + 1) = ((s + 1 : Nat) : Int) := by rw [wrap_i64 (by omega) (by omega)]; omega
  have w3 : IntKind.i64.wrap ((j : Int) + 1) = ((j + 1 : Nat) : Int) := by rw [wrap_i64 (by omega) (by omega)]; omega
  by_cases h : n < base + pw
  · rw [if_pos h]
    have hI : (n : Int) < ((base + pw : Nat) : Int) := by omega
    generalize base + pw = nb at *
    refine Run.seq_out ?_ (by simp)
    refine Run.block ?_ (by simp)
    refine Run.seq_out ?_ (by simp)
    apply Run.seq (fr' := lnFr n s base bits ++ [(12, .int .i64 (j : Nat)), (19, .bool true)]) (H' := E)
    · simp only [lnFr]
      (refine ⟨0, ?_⟩; simp (maxSteps := 2000000) -implicitDefEqProofs [-getElem?_pos, List.getElem?_cons_zero, List.getElem?_cons_succ, go_sem, eqV, plen, loadV, storeV, hp, hb0, w1, hI, h])
    refine Run.cond (d := true) (by simp [lnFr, evalO, getF]) ?_
    apply Run.seq (fr' := [(2, .int .i64 (s : Nat)), (3, .int .i64 (base : Nat)), (4, .int .i64 (bits : Nat))]) (H' := E)
    · simp only [lnFr]
      (refine ⟨0, ?_⟩; simp (maxSteps := 2000000) -implicitDefEqProofs [-getElem?_pos, List.getElem?_cons_zero, List.getElem?_cons_succ, go_sem, eqV, plen, loadV, storeV, assignV])
    · exact ⟨0, rfl⟩
  · rw [if_neg h]
    have hI : ¬ (n : Int) < ((base + pw : Nat) : Int) := by omega
    generalize base + pw = nb at *
    generalize s + 1 = s1 at *
    generalize j + 1 = j1 at *
    apply Run.seq (fr' := lnFr n s1 nb bits ++ [(12, .int .i64 (j : Nat))]) (H' := E)
    · refine Run.block ?_ (by simp)
      apply Run.seq (fr' := lnFr n s base bits ++ [(12, .int .i64 (j : Nat)), (19, .bool false)]) (H' := E)
      · apply Run.seq (fr' := lnFr n s base bits ++ [(12, .int .i64 (j : Nat)), (19, .bool false)]) (H' := E)
        · simp only [lnFr]
          (refine ⟨0, ?_⟩; simp (maxSteps := 2000000) -implicitDefEqProofs [-getElem?_pos, List.getElem?_cons_zero, List.getElem?_cons_succ, go_sem, eqV, plen, loadV, storeV, hp, hb0, w1, hI, h])
        · exact Run.cond (d := false) (by simp [lnFr, evalO, getF]) ⟨0, rfl⟩
      · simp only [lnFr]
        (refine ⟨0, ?_⟩; simp (maxSteps := 2000000) -implicitDefEqProofs [-getElem?_pos, List.getElem?_cons_zero, List.getElem?_cons_succ, go_sem, eqV, plen, loadV, storeV, hp, hb0, w1, w2, assignV])
    · simp only [lnFr]
      (refine ⟨0, ?_⟩; simp (maxSteps := 2000000) -implicitDefEqProofs [-getElem?_pos, List.getElem?_cons_zero, List.getElem?_cons_succ, go_sem, eqV, plen, loadV, storeV, w3])

set_option maxRecDepth 100000 in
/-- the symbols of as many bits -/
theorem di_in {m n s base bits f : Nat} {R : Nat × Nat × Nat} {E : AM.Heap} (hn : n ≤ 100000) (hs : s + f ≤ 900) (hbits : bits + f ≤ 41) (hb : base ≤ n + 100000) (hok : gOk 2 n f s base bits 0 = true) (hR : gF 2 n f s base bits 0 = R) :
    ∃ code, ((Try.f34.body).bind (codeAt [1, 1, 1, 1, 0, 0, 0, 0, 1])) = some code ∧ Tells (fun o => (o.ex = .normal ∧ o.H = E ∧ ∃ s' base' f', f' < f ∧ s' + f' ≤ 900 ∧ bits + 1 + f' ≤ 41 ∧ base' ≤ n + 100000 ∧ keepF [0, 2, 3, 4] o.fr = lnFr n s' base' bits ∧ gOk 2 n f' s' base' (bits + 1) 0 = true ∧ gF 2 n f' s' base' (bits + 1) 0 = R) ∨ (o.ex = .ret ∧ o.fr = lnR R ∧ o.H = E)) X (evT X) 34 m code (lnFr n s base bits ++ [(12, .int .i64 (0 : Nat))]) E := by
  refine ⟨_, rfl, ?_⟩
  refine Tells.mono (Tells.blockOr (P := fun fr H => H = E ∧ ∃ s' base' f', f' < f ∧ s' + f' ≤ 900 ∧ bits + 1 + f' ≤ 41 ∧ base' ≤ n + 100000 ∧ keepF [0, 2, 3, 4] fr = lnFr n s' base' bits ∧ gOk 2 n f' s' base' (bits + 1) 0 = true ∧ gF 2 n f' s' base' (bits + 1) 0 = R) (Q := fun o => o.ex = .ret ∧ o.fr = lnR R ∧ o.H = E) ?_) ?_
  · refine Tells.loopP (I := fun k fr H => ∃ s' base' j, k ≤ f ∧ s' + k ≤ 900 ∧ base' ≤ n + 100000 ∧ j ≤ 2 ∧ fr = lnFr n s' base' bits ++ [(12, .int .i64 (j : Nat))] ∧ H = E ∧ gOk 2 n k s' base' bits j = true ∧ gF 2 n k s' base' bits j = R) ?_ (k := f) ⟨s, base, 0, by omega, hs, hb, by omega, rfl, rfl, hok, hR⟩
    rintro k fr H ⟨s', base', j, hk, hsk, hb', hj, rfl, rfl, hok', hR'⟩
    cases k with
    | zero => simp [gOk] at hok'
    | succ k =>
      rw [gOk] at hok'
      rw [gF] at hR'
      by_cases hj2 : j = 2
      · subst hj2
        rw [if_pos rfl] at hok' hR'
        refine Tells.of (o := ⟨.exit 2, lnFr n s' base' bits ++ [(12, .int .i64 (2 : Nat)), (13, .bool false)], H⟩) ?_ (.inr ⟨by simp, .inl ⟨rfl, rfl, s', base', k, by omega, by omega, by omega, hb', by simp [lnFr, keepF, getF], hok', hR'⟩⟩)
        refine ⟨0, ?_⟩
        simp only [lnFr]
        simp (maxSteps := 2000000) -implicitDefEqProofs [-getElem?_pos, List.getElem?_cons_zero, List.getElem?_cons_succ, go_sem, eqV, plen, loadV, storeV]
      · rw [if_neg hj2] at hok' hR'
        have hjl : j < 2 := by omega
        have hjI : (j : Int) < 2 := by omega
        have hst := di_step (m := m) (E := H) (s := s') (base := base') (bits := bits) (j := j) hn (by omega) (by omega) hb' hjl
        by_cases hlt : n < base' + 2 ^ bits
        · rw [if_pos hlt] at hok' hR' hst
          subst hR'
          refine Tells.of (o := ⟨.ret, lnR (s', base', bits), H⟩) ?_ (.inr ⟨by simp, .inr ⟨rfl, rfl, rfl, rfl⟩⟩)
          apply Run.seq (fr' := lnFr n s' base' bits ++ [(12, .int .i64 (j : Nat)), (13, .bool true)]) (H' := H)
          · simp only [lnFr]
            (refine ⟨0, ?_⟩; simp (maxSteps := 2000000) -implicitDefEqProofs [-getElem?_pos, List.getElem?_cons_zero, List.getElem?_cons_succ, go_sem, eqV, plen, loadV, storeV, hjI, hjl])
          apply Run.seq (fr' := lnFr n s' base' bits ++ [(12, .int .i64 (j : Nat)), (13, .bool true)]) (H' := H)
          · exact Run.cond (d := true) (by simp [lnFr, evalO, getF]) ⟨0, rfl⟩
          exact piece hst _ rfl
        · rw [if_neg hlt] at hok' hR' hst
          refine Tells.of (o := ⟨.normal, lnFr n (s' + 1) (base' + 2 ^ bits) bits ++ [(12, .int .i64 (j + 1 : Nat))], H⟩) ?_ (.inl ⟨rfl, k, by omega, s' + 1, base' + 2 ^ bits, j + 1, by omega, by omega, by omega, by omega, rfl, rfl, hok', hR'⟩)
          apply Run.seq (fr' := lnFr n s' base' bits ++ [(12, .int .i64 (j : Nat)), (13, .bool true)]) (H' := H)
          · simp only [lnFr]
            (refine ⟨0, ?_⟩; simp (maxSteps := 2000000) -implicitDefEqProofs [-getElem?_pos, List.getElem?_cons_zero, List.getElem?_cons_succ, go_sem, eqV, plen, loadV, storeV, hjI, hjl])
          apply Run.seq (fr' := lnFr n s' base' bits ++ [(12, .int .i64 (j : Nat)), (13, .bool true)]) (H' := H)
          · exact Run.cond (d := true) (by simp [lnFr, evalO, getF]) ⟨0, rfl⟩
          exact piece hst _ rfl
  · rintro o (⟨h1, h2⟩ | ⟨h1, h2⟩)
    · exact .inl ⟨h1, h2⟩
    · exact .inr h2

/-- a distance's symbol, its base, its bits -/
def disOf (n : Nat) : Nat × Nat × Nat := if n ≤ 4 then (n - 1, n, 0) else gF 2 n 40 4 5 1 0

theorem dis_ok {n : Nat} (h : n ≤ 32768) : gOk 2 n 40 4 5 1 0 = true := gOk_mono h _ _ _ _ _ (by decide +kernel)

set_option maxRecDepth 100000 in
theorem distance_code {m n : Nat} {E : AM.Heap} (h0 : 1 ≤ n) (h : n ≤ 32768) : ∃ code, Try.f34.body = some code ∧ Tells (fun o => o.ex = .ret ∧ o.fr = lnR (disOf n) ∧ o.H = E) X (evT X) 34 m code [(0, .int .i64 (n : Nat))] E := by
  refine ⟨_, rfl, ?_⟩
  unfold disOf
  apply Tells.seq (fr' := [(0, .int .i64 (n : Nat))]) (H' := E)
  · (refine ⟨0, ?_⟩; simp (maxSteps := 2000000) -implicitDefEqProofs [-getElem?_pos, List.getElem?_cons_zero, List.getElem?_cons_succ, go_sem, eqV, plen, loadV, storeV, assignV])
  by_cases h2 : n ≤ 4
  · rw [if_pos h2]
    have h2I : (n : Int) ≤ 4 := by omega
    have w1 : IntKind.i64.wrap ((n : Int) - 1) = ((n - 1 : Nat) : Int) := by rw [wrap_i64 (by omega) (by omega)]; omega
    refine Tells.of (o := ⟨.ret, lnR (n - 1, n, 0), E⟩) ?_ ⟨rfl, rfl, rfl⟩
    refine ⟨0, ?_⟩
    simp only [lnR]
    generalize n - 1 = s at *
    simp (maxSteps := 2000000) -implicitDefEqProofs [-getElem?_pos, List.getElem?_cons_zero, List.getElem?_cons_succ, go_sem, eqV, plen, loadV, storeV, h2, h2I, w1, assignV]
  rw [if_neg h2]
  have h2I : ¬ (n : Int) ≤ 4 := by omega
  apply Tells.assoc
  apply Tells.seq (fr' := [(0, .int .i64 (n : Nat)), (6, .bool false)]) (H' := E)
  · (refine ⟨0, ?_⟩; simp (maxSteps := 2000000) -implicitDefEqProofs [-getElem?_pos, List.getElem?_cons_zero, List.getElem?_cons_succ, go_sem, eqV, plen, loadV, storeV, h2, h2I])
  apply Tells.seq (fr' := [(0, .int .i64 (n : Nat)), (6, .bool false)]) (H' := E)
  · exact Run.cond (d := false) (by simp [evalO, getF]) ⟨0, rfl⟩
  apply Tells.seq (fr' := [(0, .int .i64 (n : Nat)), (2, .int .i64 4), (3, .int .i64 5)]) (H' := E)
  · (refine ⟨0, ?_⟩; simp (maxSteps := 2000000) -implicitDefEqProofs [-getElem?_pos, List.getElem?_cons_zero, List.getElem?_cons_succ, go_sem, eqV, plen, loadV, storeV, assignV])
  apply Tells.seq (fr' := lnFr n 4 5 1) (H' := E)
  · simp only [lnFr]
    (refine ⟨0, ?_⟩; simp (maxSteps := 2000000) -implicitDefEqProofs [-getElem?_pos, List.getElem?_cons_zero, List.getElem?_cons_succ, go_sem, eqV, plen, loadV, storeV, assignV])
  refine Tells.blk ?_ (fun o ho => by rw [ho.1]; simp)
  refine Tells.loopP (I := fun k fr H => ∃ s base bits, s + k ≤ 900 ∧ bits + k ≤ 41 ∧ base ≤ n + 100000 ∧ fr = lnFr n s base bits ∧ H = E ∧ gOk 2 n k s base bits 0 = true ∧ gF 2 n k s base bits 0 = gF 2 n 40 4 5 1 0) ?_ (k := 40) ⟨4, 5, 1, by omega, by omega, by omega, rfl, rfl, dis_ok h, rfl⟩
  rintro k fr H ⟨s, base, bits, hs, hbits, hb, rfl, rfl, hok, hR⟩
  generalize gF 2 n 40 4 5 1 0 = R at *
  have h8 : ∃ code, ((Try.f34.body).bind (codeAt [1, 1, 1, 1, 0, 0, 0, 0, 0])) = some code ∧ Run X (evT X) 34 m code (lnFr n s base bits) H ⟨.normal, lnFr n s base bits ++ [(12, .int .i64 (0 : Nat))], H⟩ := by
    refine ⟨_, rfl, ?_⟩
    simp only [lnFr]
    (refine ⟨0, ?_⟩; simp (maxSteps := 2000000) -implicitDefEqProofs [-getElem?_pos, List.getElem?_cons_zero, List.getElem?_cons_succ, go_sem, eqV, plen, loadV, storeV])
  obtain ⟨codeB, hcB, ⟨ex, fr, H2⟩, hq, hrB⟩ := di_in (m := m) (E := H) (by omega) hs hbits hb hok hR
  rcases hq with ⟨h3, h4, s', base', f', k1, k2, k3, k4, k5, k6, k7⟩ | ⟨h3, h4, h5⟩
  · simp only at h3 h4 k5
    subst h3 h4
    have g0 : getF fr 0 = .int .i64 (n : Nat) := by simpa [keepF, lnFr, getF] using congrArg (fun f => getF f 0) k5
    have g2 : getF fr 2 = .int .i64 (s' : Nat) := by simpa [keepF, lnFr, getF] using congrArg (fun f => getF f 2) k5
    have g3 : getF fr 3 = .int .i64 (base' : Nat) := by simpa [keepF, lnFr, getF] using congrArg (fun f => getF f 3) k5
    have g4 : getF fr 4 = .int .i64 (bits : Nat) := by simpa [keepF, lnFr, getF] using congrArg (fun f => getF f 4) k5
    refine Tells.of (o := ⟨.normal, lnFr n s' base' (bits + 1), H2⟩) ?_ (.inl ⟨rfl, f', k1, s', base', bits + 1, k2, k3, k4, rfl, rfl, k6, k7⟩)
    apply Run.seq (fr' := fr) (H' := H2)
    · refine Run.block ?_ (by simp)
      exact Run.seq (piece h8 _ rfl) ((Option.some.inj hcB) ▸ hrB)
    · have w1 : IntKind.i64.wrap ((bits : Int) + 1) = ((bits + 1 : Nat) : Int) := by rw [wrap_i64 (by omega) (by omega)]; omega
      generalize bits + 1 = b1 at *
      simp only [lnFr]
      (refine ⟨0, ?_⟩; simp (maxSteps := 2000000) -implicitDefEqProofs [-getElem?_pos, List.getElem?_cons_zero, List.getElem?_cons_succ, go_sem, eqV, plen, loadV, storeV, g0, g2, g3, g4, w1, assignV])
  · simp only at h3 h4 h5
    subst h3 h4 h5
    refine Tells.of (o := ⟨.ret, lnR R, H2⟩) ?_ (.inr ⟨by simp, rfl, rfl, rfl⟩)
    refine Run.seq_out ?_ (by simp)
    refine Run.block ?_ (by simp)
    exact Run.seq (piece h8 _ rfl) ((Option.some.inj hcB) ▸ hrB)

theorem distance_ev {n : Nat} {H : AM.Heap} (h0 : 1 ≤ n) (h : n ≤ 32768) : evT X 34 [.int .i64 (n : Nat)] H = some (.tup [.int .i64 ((disOf n).1 : Nat), .int .i64 ((disOf n).2.1 : Nat), .int .i64 ((disOf n).2.2 : Nat)], H) := by
  obtain ⟨code, hc, ⟨out, ⟨h1, h2, h3⟩, hr⟩⟩ := distance_code (m := 0) (E := []) h0 h
  have hx := args_flat (C := X) (f := 34) (i := 0) (a := .int .i64 (n : Nat)) (H := H) rfl rfl (args_nil 1)
  refine evT_eq (Ev1.toldP (l := [.int .i64 ((disOf n).1 : Nat), .int .i64 ((disOf n).2.1 : Nat), .int .i64 ((disOf n).2.2 : Nat)]) (evT_below X) Try.func34 hc hx rfl (by simp [gtag]) rfl rfl rfl ?_)
  rw [par34]
  refine ⟨out, ⟨h1, ?_⟩, hr⟩
  show resultsV X out.fr out.H [.tmp 2, .tmp 3, .tmp 4] = _
  rw [h2]
  rfl

end Go.Proofs.Yteblpjhkgdpchaa

/- Walks: counts. -/
namespace Go.Proofs.Yteblpjhkgdpchaa
open Go.AM
set_option linter.unusedSimpArgs false
set_option linter.unusedVariables false

/-- symbols of each length, on from n; 0, or the error -/
def countL : List Int → List Int → List Int × Int
  | n, [] => (n, 0)
  | n, x :: r => if 0 ≤ x ∧ x ≤ 15 then countL (n.set x.toNat (IntKind.i64.wrap (n.getD x.toNat 0 + 1))) r else (n, 2)

def z16 : List Int := [0, 0, 0, 0, 0, 0, 0, 0, 0, 0, 0, 0, 0, 0, 0, 0]
def countsR (l : List Int) : List Int × Int := if 320 < (l.length : Int) then (z16, 3) else countL z16 l

def bx (n : List Int) : Option AM.Obj := some { p := .pi .i64 n, g := 0, cap := some 16, z := 1, row := false, ids := false, tg := 0 }

theorem countL_len : ∀ (l n : List Int), (countL n l).1.length = n.length
  | [], n => rfl
  | x :: r, n => by
    simp only [countL]
    split
    · rw [countL_len r]; simp
    · rfl

/-- what the loop leaves -/
def countsO (c : Nat) (l n todo : List Int) : AM.Out :=
  if (countL n todo).2 = 0 then ⟨.exit 0, [(2, .ptr 0 0 0 0), (4, .ptr 1 0 0 0), (11, .ro c (.pi .i64 l) 1), (12, .int .i64 l.length), (13, .int .i64 l.length), (14, .bool false)], [bx z16, bx (countL n todo).1]⟩
  else ⟨.ret, [(2, .ptr 0 0 0 0), (3, .int .i64 (countL n todo).2)], [bx (countL n todo).1, bx (countL n todo).1]⟩

set_option maxRecDepth 100000 in
theorem counts_code (T : Cf) (c : Nat) (l : List Int) (h63 : l.length < 9223372036854775808) : ∃ code, Try.f51.body = some code ∧
    Run X T 51 0 code [(0, .ro c (.pi .i64 l) 1)] [] ⟨.ret, [(2, .ptr 0 0 0 0), (3, .int .i64 (countsR l).2)], [bx (countsR l).1, bx (countsR l).1]⟩ := by
  refine ⟨_, rfl, ?_⟩
  by_cases hl : 320 < (l.length : Int)
  · simp only [countsR, hl, if_true]
    apply Run.seq
    · (refine ⟨0, ?_⟩; conv => lhs; simp (maxSteps := 2000000) -implicitDefEqProofs [-getElem?_pos, List.getElem?_cons_zero, List.getElem?_cons_succ, go_sem, eqV, plen, loadV, storeV])
    apply Run.seq
    · (refine ⟨0, ?_⟩; conv => lhs; simp (maxSteps := 2000000) -implicitDefEqProofs [-getElem?_pos, List.getElem?_cons_zero, List.getElem?_cons_succ, go_sem, eqV, plen, loadV, storeV])
    apply Run.seq_out
    · apply Run.seq
      · (refine ⟨0, ?_⟩; conv => lhs; simp (maxSteps := 2000000) -implicitDefEqProofs [-getElem?_pos, List.getElem?_cons_zero, List.getElem?_cons_succ, go_sem, eqV, plen, loadV, storeV, hl])
      · refine Run.cond (d := true) rfl ?_
        apply Run.seq
        · (refine ⟨0, ?_⟩; conv => lhs; simp (maxSteps := 2000000) -implicitDefEqProofs [-getElem?_pos, List.getElem?_cons_zero, List.getElem?_cons_succ, go_sem, eqV, plen, loadV, storeV])
        · exact ⟨0, rfl⟩
    · simp
  · simp only [countsR, hl, if_false]
    apply Run.seq
    · (refine ⟨0, ?_⟩; conv => lhs; simp (maxSteps := 2000000) -implicitDefEqProofs [-getElem?_pos, List.getElem?_cons_zero, List.getElem?_cons_succ, go_sem, eqV, plen, loadV, storeV])
    apply Run.seq
    · (refine ⟨0, ?_⟩; conv => lhs; simp (maxSteps := 2000000) -implicitDefEqProofs [-getElem?_pos, List.getElem?_cons_zero, List.getElem?_cons_succ, go_sem, eqV, plen, loadV, storeV])
    apply Run.seq
    · apply Run.seq
      · (refine ⟨0, ?_⟩; conv => lhs; simp (maxSteps := 2000000) -implicitDefEqProofs [-getElem?_pos, List.getElem?_cons_zero, List.getElem?_cons_succ, go_sem, eqV, plen, loadV, storeV, hl])
      · exact Run.cond (d := false) rfl ⟨0, rfl⟩
    -- the loop
    apply Run.seq' (o := blockOut 0 (countsO c l z16 l))
    · apply Run.seq
      · (refine ⟨0, ?_⟩; conv => lhs; simp (maxSteps := 2000000) -implicitDefEqProofs [-getElem?_pos, List.getElem?_cons_zero, List.getElem?_cons_succ, go_sem, eqV, plen, loadV, storeV])
      · apply Run.block'
        refine Run.loop_rule (σ := List Int × List Int × List Int) (fun s => s.1.length = 16 ∧ s.2.1 ++ s.2.2 = l) (fun s => [(2, .ptr 0 0 0 0), (4, .ptr 1 0 0 0), (11, .ro c (.pi .i64 l) 1), (12, .int .i64 l.length), (13, .int .i64 (s.2.1.length : Nat))])
          (fun s => [bx z16, bx s.1]) (fun s => countsO c l s.1 s.2.2) (fun s => s.2.2.length) ?_ (z16, [], l) ⟨rfl, rfl⟩
        rintro ⟨n, done, todo⟩ ⟨hn, hd⟩
        simp only at hn hd ⊢
        cases todo with
        | nil =>
          right
          have hlen : done.length = l.length := by rw [← hd]; simp
          refine ⟨?_, by simp [countsO, countL]⟩
          simp only [countsO, countL, if_true]
          apply Run.seq
          · (refine ⟨0, ?_⟩; conv => lhs; simp (maxSteps := 2000000) -implicitDefEqProofs [-getElem?_pos, List.getElem?_cons_zero, List.getElem?_cons_succ, go_sem, eqV, plen, loadV, storeV, hlen])
          · apply Run.seq_out
            · exact Run.cond (d := false) rfl ⟨0, rfl⟩
            · simp
        | cons x todo =>
          have hlt : done.length < l.length := by rw [← hd]; simp
          have hget : l[done.length]? = some x := by rw [← hd]; simp
          by_cases hx : 0 ≤ x ∧ x ≤ 15
          · left
            obtain ⟨v, hv⟩ : ∃ v, n[x.toNat]? = some v := ⟨n[x.toNat]'(by omega), List.getElem?_eq_getElem (by omega)⟩
            refine ⟨(n.set x.toNat (IntKind.i64.wrap (v + 1)), done ++ [x], todo), ⟨by simpa using hn, by simpa using hd⟩, ?_, ?_, by simp⟩
            · have hltI : (done.length : Int) < (l.length : Int) := by omega
              have hx1 : ¬ x < 0 := by omega
              have hx2 : ¬ 15 < x := by omega
              have hx3 : x < 16 := by omega
              have e : IntKind.i64.wrap ((done.length : Int) + 1) = (done.length : Int) + 1 := wrap_i64 (by omega) (by omega)
              apply Run.seq
              · (refine ⟨0, ?_⟩; conv => lhs; simp (maxSteps := 2000000) -implicitDefEqProofs [-getElem?_pos, List.getElem?_cons_zero, List.getElem?_cons_succ, go_sem, eqV, plen, loadV, storeV, hltI])
              apply Run.seq
              · exact Run.cond (d := true) rfl ⟨0, rfl⟩
              apply Run.seq
              · apply Run.block
                · apply Run.seq
                  · (refine ⟨0, ?_⟩; conv => lhs; simp (maxSteps := 2000000) -implicitDefEqProofs [-getElem?_pos, List.getElem?_cons_zero, List.getElem?_cons_succ, go_sem, eqV, plen, loadV, storeV, hget, hlt])
                  apply Run.seq
                  · apply Run.seq
                    · (refine ⟨0, ?_⟩; conv => lhs; simp (maxSteps := 2000000) -implicitDefEqProofs [-getElem?_pos, List.getElem?_cons_zero, List.getElem?_cons_succ, go_sem, eqV, plen, loadV, storeV, hx1, hx2])
                    · exact Run.cond (d := false) rfl ⟨0, rfl⟩
                  · (refine ⟨0, ?_⟩; conv => lhs; simp (maxSteps := 2000000) -implicitDefEqProofs [-getElem?_pos, List.getElem?_cons_zero, List.getElem?_cons_succ, go_sem, eqV, plen, loadV, storeV, hx.1, hx3, hv, bx, hn])
                · simp
              · (refine ⟨0, ?_⟩; simp (maxSteps := 2000000) -implicitDefEqProofs [-getElem?_pos, List.getElem?_cons_zero, List.getElem?_cons_succ, go_sem, eqV, plen, loadV, storeV, e, bx, List.getD_eq_getElem?_getD, hv])
            · simp [countsO, countL, hx, List.getD_eq_getElem?_getD, hv]
          · right
            refine ⟨?_, by simp [countsO, countL, hx]⟩
            have hltI : (done.length : Int) < (l.length : Int) := by omega
            simp only [countsO, countL, hx, if_false]
            apply Run.seq
            · (refine ⟨0, ?_⟩; conv => lhs; simp (maxSteps := 2000000) -implicitDefEqProofs [-getElem?_pos, List.getElem?_cons_zero, List.getElem?_cons_succ, go_sem, eqV, plen, loadV, storeV, hltI])
            apply Run.seq
            · exact Run.cond (d := true) rfl ⟨0, rfl⟩
            apply Run.seq_out
            · apply Run.block
              · apply Run.seq
                · (refine ⟨0, ?_⟩; conv => lhs; simp (maxSteps := 2000000) -implicitDefEqProofs [-getElem?_pos, List.getElem?_cons_zero, List.getElem?_cons_succ, go_sem, eqV, plen, loadV, storeV, hget, hlt])
                apply Run.seq_out
                · refine Run.seq (fr' := [(2, .ptr 0 0 0 0), (4, .ptr 1 0 0 0), (6, .int .i64 x), (11, .ro c (.pi .i64 l) 1), (12, .int .i64 l.length), (13, .int .i64 done.length), (22, .bool true)]) (H' := [bx z16, bx n]) ⟨0, ?_⟩ ?_
                  · by_cases hx1 : x < 0
                    · simp (maxSteps := 2000000) -implicitDefEqProofs [-getElem?_pos, List.getElem?_cons_zero, List.getElem?_cons_succ, go_sem, eqV, plen, loadV, storeV, hx1]
                    · have hx2 : 15 < x := by omega
                      simp (maxSteps := 2000000) -implicitDefEqProofs [-getElem?_pos, List.getElem?_cons_zero, List.getElem?_cons_succ, go_sem, eqV, plen, loadV, storeV, hx1, hx2]
                  · refine Run.cond (d := true) rfl ?_
                    apply Run.seq
                    · (refine ⟨0, ?_⟩; conv => lhs; simp (maxSteps := 2000000) -implicitDefEqProofs [-getElem?_pos, List.getElem?_cons_zero, List.getElem?_cons_succ, go_sem, eqV, plen, loadV, storeV, bx, z16, hn])
                    · exact ⟨0, rfl⟩
                · simp
              · simp
            · simp
    · intro fr' H' h
      unfold countsO at h
      split at h
      · rename_i he
        simp only [blockOut, if_true, Out.mk.injEq, true_and] at h
        obtain ⟨rfl, rfl⟩ := h
        rw [he]
        have hn := countL_len l z16
        generalize (countL z16 l).1 = n at hn ⊢
        have hn' : n.length = 16 := hn
        apply Run.seq
        · (refine ⟨0, ?_⟩; conv => lhs; simp (maxSteps := 2000000) -implicitDefEqProofs [-getElem?_pos, List.getElem?_cons_zero, List.getElem?_cons_succ, go_sem, eqV, plen, loadV, storeV, bx, z16, hn'])
        · exact ⟨0, rfl⟩
      · simp [blockOut] at h
    · intro h
      unfold countsO at h ⊢
      split at h
      · simp [blockOut] at h
      · rename_i he
        rw [if_neg he]
        rfl
end Go.Proofs.Yteblpjhkgdpchaa

/- Walks: Check, firsts. -/
namespace Go.Proofs.Yteblpjhkgdpchaa
open Go.AM
set_option linter.unusedSimpArgs false
set_option linter.unusedVariables false

theorem countsR_len (l : List Int) : (countsR l).1.length = 16 := by
  unfold countsR
  split
  · rfl
  · rw [countL_len]; rfl

theorem countL_ok : ∀ (l n : List Int), (countL n l).2 = 0 → ∀ x ∈ l, 0 ≤ x ∧ x ≤ 15
  | [], n, _ => by simp
  | x :: r, n, h => by
    simp only [countL] at h
    split at h
    · rename_i hx
      intro y hy
      rcases List.mem_cons.1 hy with rfl | hy
      · exact hx
      · exact countL_ok r _ h y hy
    · simp at h

theorem countsR_ok {l : List Int} (h : (countsR l).2 = 0) : l.length ≤ 320 ∧ ∀ x ∈ l, 0 ≤ x ∧ x ≤ 15 := by
  unfold countsR at h
  split at h
  · simp at h
  · rename_i hl
    exact ⟨by omega, countL_ok l z16 h⟩

def cnt (l : List Int) : AV := .tup [.agg (.pi .i64 (countsR l).1), .int .i64 (countsR l).2]

theorem counts_ev (c : Nat) (l : List Int) (h63 : l.length < 9223372036854775808) : Ev1 X 51 [.ro c (.pi .i64 l) 1] [] (cnt l, []) := by
  obtain ⟨code, hb, hr⟩ := counts_code (fun _ _ _ => .none) c l h63
  have hn := countsR_len l
  exact Ev1.plain (l := [.agg (.pi .i64 (countsR l).1), .int .i64 (countsR l).2]) Below.none Try.func51 hb rfl rfl (by simp [gtag]) hr (.inr rfl) (by
    have : Try.f51.results.toList = [.cell 2 73, .tmp 3] := rfl
    rw [this]
    simp [-getElem?_pos, List.getElem?_cons_zero, resultsV, loadV, getF, live, bx, pagg, hn, retagP]) rfl rfl

def S1 (f : Nat) (xs : List AV) : Option (AV × AM.Heap) :=
  match f, xs with
  | 51, [.ro _ (.pi .i64 l) 1] => if l.length < 9223372036854775808 then some (cnt l, []) else .none
  | _, _ => .none

theorem S1_ok : ∀ f xs v N, S1 f xs = some (v, N) → Ev1 X f xs [] (v, N) := by
  intro f xs v N h
  unfold S1 at h
  split at h
  · split at h
    · rename_i hl
      simp only [Option.some.injEq, Prod.mk.injEq] at h
      obtain ⟨rfl, rfl⟩ := h
      exact counts_ev _ _ hl
    · cases h
  · cases h

noncomputable def T1 : Cf := lentT X S1
theorem T1_below : Below X T1 := lentT_below S1_ok

theorem T1_counts {H : AM.Heap} {a : AV} {l : List Int} (h : payOf H a = some (.pi .i64 l)) (hl : l.length < 9223372036854775808) : T1 51 [a] H = some (cnt l, H) := by
  obtain ⟨c, x, hx⟩ := args_pay (C := X) (f := 51) (i := 0) rfl h (args_nil 1)
  unfold T1 lentT
  rw [hx]
  simp [S1, hl, idsL, ids, cnt, cleanV, cleanH, tags, tagsL, shiftV, shiftH, ren, renL]

theorem T1_ro (c t : Nat) (l : List Int) (H : AM.Heap) (hl : l.length < 9223372036854775808) : T1 51 [.ro c (.pi .i64 l) t] H = some (cnt l, H) := T1_counts rfl hl

/-- Check's sum, k lengths from i on -/
def sumL (n : List Int) : Nat → Nat → Int → Int
  | 0, _, s => s
  | k + 1, i, s => sumL n k (i + 1) (IntKind.i64.wrap (s + IntKind.i64.wrap (n.getD i 0 * 2 ^ (min (15 - i) 64))))

def checkR (l : List Int) : Bool × Int :=
  if (countsR l).2 = 0 then
    if 32768 < sumL (countsR l).1 15 1 0 then (false, 7) else (sumL (countsR l).1 15 1 0 == 32768, 0)
  else (false, (countsR l).2)

set_option maxRecDepth 100000 in
theorem check_code (c : Nat) (l : List Int) (h63 : l.length < 9223372036854775808) : ∃ code, Try.f50.body = some code ∧
    Run X T1 50 0 code [(0, .ro c (.pi .i64 l) 1)] [] ⟨.ret, [(2, .bool (checkR l).1), (3, .int .i64 (checkR l).2)], [bx (countsR l).1]⟩ := by
  refine ⟨_, rfl, ?_⟩
  have hT := fun H => T1_ro c 1 l H h63
  have hn := countsR_len l
  unfold checkR
  unfold cnt at hT
  generalize (countsR l).1 = n at hT hn ⊢
  generalize (countsR l).2 = e at hT ⊢
  apply Run.seq
  · (refine ⟨0, ?_⟩; conv => lhs; simp (maxSteps := 2000000) -implicitDefEqProofs [-getElem?_pos, List.getElem?_cons_zero, List.getElem?_cons_succ, go_sem, eqV, plen, loadV, storeV])
  apply Run.seq
  · (refine ⟨0, ?_⟩; conv => lhs; simp (maxSteps := 2000000) -implicitDefEqProofs [-getElem?_pos, List.getElem?_cons_zero, List.getElem?_cons_succ, go_sem, eqV, plen, loadV, storeV, hT, hn])
  by_cases he : e = 0
  · subst he
    simp only [if_true]
    apply Run.seq
    · apply Run.seq
      · (refine ⟨0, ?_⟩; conv => lhs; simp (maxSteps := 2000000) -implicitDefEqProofs [-getElem?_pos, List.getElem?_cons_zero, List.getElem?_cons_succ, go_sem, eqV, plen, loadV, storeV])
      · exact Run.cond (d := false) rfl ⟨0, rfl⟩
    apply Run.seq
    · (refine ⟨0, ?_⟩; conv => lhs; simp (maxSteps := 2000000) -implicitDefEqProofs [-getElem?_pos, List.getElem?_cons_zero, List.getElem?_cons_succ, go_sem, eqV, plen, loadV, storeV])
    apply Run.seq (fr' := [(4, .ptr 0 0 0 0), (5, .int .i64 (sumL n 15 1 0)), (6, .int .i64 16), (16, .bool false)]) (H' := [bx n])
    · apply Run.seq (fr' := [(4, .ptr 0 0 0 0), (5, .int .i64 0), (6, .int .i64 (1 : Nat))]) (H' := [bx n])
      · (refine ⟨0, ?_⟩; simp (maxSteps := 2000000) -implicitDefEqProofs [-getElem?_pos, List.getElem?_cons_zero, List.getElem?_cons_succ, go_sem, eqV, plen, loadV, storeV, bx])
      · apply Run.block_exit
        refine Run.loop_rule (σ := Nat × Nat × Int) (fun s => s.1 + s.2.1 = 16 ∧ 1 ≤ s.2.1) (fun s => [(4, .ptr 0 0 0 0), (5, .int .i64 s.2.2), (6, .int .i64 (s.2.1 : Nat))]) (fun _ => [bx n])
          (fun s => ⟨.exit 0, [(4, .ptr 0 0 0 0), (5, .int .i64 (sumL n s.1 s.2.1 s.2.2)), (6, .int .i64 16), (16, .bool false)], [bx n]⟩) (fun s => s.1) ?_ (15, 1, 0) ⟨rfl, Nat.le_refl 1⟩
        rintro ⟨k, i, s⟩ ⟨hk, hi⟩
        simp only at hk hi ⊢
        cases k with
        | zero =>
          right
          have : i = 16 := by omega
          subst this
          refine ⟨?_, by simp⟩
          apply Run.seq_out
          · (refine ⟨0, ?_⟩; simp (maxSteps := 2000000) -implicitDefEqProofs [-getElem?_pos, List.getElem?_cons_zero, List.getElem?_cons_succ, go_sem, eqV, plen, loadV, storeV, sumL])
          · simp
        | succ k =>
          left
          refine ⟨(k, i + 1, IntKind.i64.wrap (s + IntKind.i64.wrap (n.getD i 0 * 2 ^ (min (15 - i) 64)))), ⟨show k + (i + 1) = 16 by omega, show 1 ≤ i + 1 by omega⟩, ?_, rfl, by simp⟩
          obtain ⟨v, hv⟩ : ∃ v, n[i]? = some v := ⟨n[i]'(by omega), List.getElem?_eq_getElem (by omega)⟩
          have hi15 : (i : Int) ≤ 15 := by omega
          have hi16 : i < 16 := by omega
          have hI16 : (i : Int) < 16 := by omega
          have e1 : IntKind.i64.wrap (15 - (i : Int)) = 15 - (i : Int) := wrap_i64 (by omega) (by omega)
          have e2 : (15 - (i : Int)).toNat = 15 - i := by omega
          have e3 : ¬ (15 - (i : Int) < 0) := by omega
          have e4 : IntKind.i64.wrap ((i : Int) + 1) = (i : Int) + 1 := wrap_i64 (by omega) (by omega)
          apply Run.seq
          · (refine ⟨0, ?_⟩; conv => lhs; simp (maxSteps := 2000000) -implicitDefEqProofs [-getElem?_pos, List.getElem?_cons_zero, List.getElem?_cons_succ, go_sem, eqV, plen, loadV, storeV, hi15])
          apply Run.seq
          · apply Run.block
            · (refine ⟨0, ?_⟩; conv => lhs; simp (maxSteps := 2000000) -implicitDefEqProofs [-getElem?_pos, List.getElem?_cons_zero, List.getElem?_cons_succ, go_sem, eqV, plen, loadV, storeV, bx, hn, hi16, hI16, hv, e1, e2, e3, IntKind.bits])
            · simp
          · (refine ⟨0, ?_⟩; simp (maxSteps := 2000000) -implicitDefEqProofs [-getElem?_pos, List.getElem?_cons_zero, List.getElem?_cons_succ, go_sem, eqV, plen, loadV, storeV, e4, List.getD_eq_getElem?_getD, hv, bx])
    · by_cases hs : 32768 < sumL n 15 1 0
      · simp only [hs, if_true]
        apply Run.seq_out
        · apply Run.seq
          · (refine ⟨0, ?_⟩; conv => lhs; simp (maxSteps := 2000000) -implicitDefEqProofs [-getElem?_pos, List.getElem?_cons_zero, List.getElem?_cons_succ, go_sem, eqV, plen, loadV, storeV, hs])
          · refine Run.cond (d := true) rfl ?_
            apply Run.seq
            · (refine ⟨0, ?_⟩; conv => lhs; simp (maxSteps := 2000000) -implicitDefEqProofs [-getElem?_pos, List.getElem?_cons_zero, List.getElem?_cons_succ, go_sem, eqV, plen, loadV, storeV])
            · exact ⟨0, rfl⟩
        · simp
      · simp only [hs, if_false]
        apply Run.seq
        · apply Run.seq
          · (refine ⟨0, ?_⟩; conv => lhs; simp (maxSteps := 2000000) -implicitDefEqProofs [-getElem?_pos, List.getElem?_cons_zero, List.getElem?_cons_succ, go_sem, eqV, plen, loadV, storeV, hs])
          · exact Run.cond (d := false) rfl ⟨0, rfl⟩
        apply Run.seq
        · (refine ⟨0, ?_⟩; conv => lhs; simp (maxSteps := 2000000) -implicitDefEqProofs [-getElem?_pos, List.getElem?_cons_zero, List.getElem?_cons_succ, go_sem, eqV, plen, loadV, storeV])
        · exact ⟨0, rfl⟩
  · simp only [he, if_false]
    have hb : (e != 0) = true := by simpa using he
    apply Run.seq_out
    · apply Run.seq
      · (refine ⟨0, ?_⟩; conv => lhs; simp (maxSteps := 2000000) -implicitDefEqProofs [-getElem?_pos, List.getElem?_cons_zero, List.getElem?_cons_succ, go_sem, eqV, plen, loadV, storeV, hb])
      · refine Run.cond (d := true) rfl ?_
        apply Run.seq
        · (refine ⟨0, ?_⟩; conv => lhs; simp (maxSteps := 2000000) -implicitDefEqProofs [-getElem?_pos, List.getElem?_cons_zero, List.getElem?_cons_succ, go_sem, eqV, plen, loadV, storeV, bx])
        · exact ⟨0, rfl⟩
    · simp

end Go.Proofs.Yteblpjhkgdpchaa

/- Walks: firsts. -/
namespace Go.Proofs.Yteblpjhkgdpchaa
open Go.AM
set_option linter.unusedSimpArgs false
set_option linter.unusedVariables false

def bx17 (n : List Int) : Option AM.Obj := some { p := .pi .i64 n, g := 0, cap := some 17, z := 1, row := false, ids := false, tg := 0 }
def z17 : List Int := [0, 0, 0, 0, 0, 0, 0, 0, 0, 0, 0, 0, 0, 0, 0, 0, 0]

/-- the first codes, k lengths from i on -/
def firstL (n : List Int) : Nat → Nat → List Int → List Int
  | 0, _, f => f
  | k + 1, i, f => firstL n k (i + 1) (f.set (i + 1) (IntKind.i64.wrap (IntKind.i64.wrap (f.getD i 0 + n.getD i 0) * 2)))

def firstsR (n : List Int) : List Int := firstL (n.set 0 0) 15 1 z17

theorem firstL_len (n : List Int) : ∀ (k i : Nat) (f : List Int), (firstL n k i f).length = f.length
  | 0, _, _ => rfl
  | k + 1, i, f => by rw [firstL, firstL_len n k]; simp

set_option maxRecDepth 100000 in
theorem firsts_code (T : Cf) (n0 : List Int) (hn0 : n0.length = 16) : ∃ code, Try.f52.body = some code ∧
    Run X T 52 0 code [(0, .agg (.pi .i64 n0))] [] ⟨.ret, [(2, .ptr 1 0 0 0)], [bx (n0.set 0 0), bx17 (firstsR n0), bx17 (firstsR n0)]⟩ := by
  refine ⟨_, rfl, ?_⟩
  unfold firstsR
  have hn : (n0.set 0 0).length = 16 := by simpa using hn0
  have h0 : 0 < n0.length := by omega
  apply Run.seq
  · (refine ⟨0, ?_⟩; conv => lhs; simp (maxSteps := 2000000) -implicitDefEqProofs [-getElem?_pos, List.getElem?_cons_zero, List.getElem?_cons_succ, go_sem, eqV, plen, loadV, storeV, hn0])
  apply Run.seq
  · (refine ⟨0, ?_⟩; conv => lhs; simp (maxSteps := 2000000) -implicitDefEqProofs [-getElem?_pos, List.getElem?_cons_zero, List.getElem?_cons_succ, go_sem, eqV, plen, loadV, storeV])
  apply Run.seq (fr' := [(1, .ptr 0 0 0 0), (2, .ptr 1 0 0 0), (3, .ptr 2 0 0 0)]) (H' := [bx (n0.set 0 0), bx17 z17, bx17 z17])
  · (refine ⟨0, ?_⟩; simp (maxSteps := 2000000) -implicitDefEqProofs [-getElem?_pos, List.getElem?_cons_zero, List.getElem?_cons_succ, go_sem, eqV, plen, loadV, storeV, h0, bx, bx17, z17, hn0])
  generalize n0.set 0 0 = n at hn ⊢
  have hlen := firstL_len n 15 1 z17
  apply Run.seq (fr' := [(1, .ptr 0 0 0 0), (2, .ptr 1 0 0 0), (3, .ptr 2 0 0 0), (4, .int .i64 16), (7, .bool false)]) (H' := [bx n, bx17 z17, bx17 (firstL n 15 1 z17)])
  · apply Run.seq (fr' := [(1, .ptr 0 0 0 0), (2, .ptr 1 0 0 0), (3, .ptr 2 0 0 0), (4, .int .i64 (1 : Nat))]) (H' := [bx n, bx17 z17, bx17 z17])
    · (refine ⟨0, ?_⟩; simp (maxSteps := 2000000) -implicitDefEqProofs [-getElem?_pos, List.getElem?_cons_zero, List.getElem?_cons_succ, go_sem, eqV, plen, loadV, storeV])
    · apply Run.block_exit
      refine Run.loop_rule (σ := Nat × Nat × List Int) (fun s => s.1 + s.2.1 = 16 ∧ 1 ≤ s.2.1 ∧ s.2.2.length = 17) (fun s => [(1, .ptr 0 0 0 0), (2, .ptr 1 0 0 0), (3, .ptr 2 0 0 0), (4, .int .i64 (s.2.1 : Nat))]) (fun s => [bx n, bx17 z17, bx17 s.2.2])
        (fun s => ⟨.exit 0, [(1, .ptr 0 0 0 0), (2, .ptr 1 0 0 0), (3, .ptr 2 0 0 0), (4, .int .i64 16), (7, .bool false)], [bx n, bx17 z17, bx17 (firstL n s.1 s.2.1 s.2.2)]⟩) (fun s => s.1) ?_ (15, 1, z17) ⟨rfl, Nat.le_refl 1, rfl⟩
      rintro ⟨k, i, f⟩ ⟨hk, hi, hf⟩
      simp only at hk hi hf ⊢
      cases k with
      | zero =>
        right
        have : i = 16 := by omega
        subst this
        refine ⟨?_, by simp⟩
        apply Run.seq_out
        · (refine ⟨0, ?_⟩; simp (maxSteps := 2000000) -implicitDefEqProofs [-getElem?_pos, List.getElem?_cons_zero, List.getElem?_cons_succ, go_sem, eqV, plen, loadV, storeV, firstL])
        · simp
      | succ k =>
        left
        refine ⟨(k, i + 1, f.set (i + 1) (IntKind.i64.wrap (IntKind.i64.wrap (f.getD i 0 + n.getD i 0) * 2))), ⟨show k + (i + 1) = 16 by omega, show 1 ≤ i + 1 by omega, by simpa using hf⟩, ?_, rfl, by simp⟩
        obtain ⟨v, hv⟩ : ∃ v, n[i]? = some v := ⟨n[i]'(by omega), List.getElem?_eq_getElem (by omega)⟩
        obtain ⟨u, hu⟩ : ∃ v, f[i]? = some v := ⟨f[i]'(by omega), List.getElem?_eq_getElem (by omega)⟩
        have hi15 : (i : Int) ≤ 15 := by omega
        have hi16 : i < 16 := by omega
        have hI16 : (i : Int) < 16 := by omega
        have hI17 : (i : Int) < 17 := by omega
        have hJ17 : i + 1 < 17 := by omega
        have hi17 : i < 17 := by omega
        have hiI : (i : Int) + 1 < 17 := by omega
        have hiJ : (0 : Int) ≤ (i : Int) + 1 := by omega
        have e4 : IntKind.i64.wrap ((i : Int) + 1) = (i : Int) + 1 := wrap_i64 (by omega) (by omega)
        have e5 : ((i : Int) + 1).toNat = i + 1 := by omega
        apply Run.seq
        · (refine ⟨0, ?_⟩; conv => lhs; simp (maxSteps := 2000000) -implicitDefEqProofs [-getElem?_pos, List.getElem?_cons_zero, List.getElem?_cons_succ, go_sem, eqV, plen, loadV, storeV, hi15])
        apply Run.seq
        · apply Run.block
          · (refine ⟨0, ?_⟩; conv => lhs; simp (maxSteps := 2000000) -implicitDefEqProofs [-getElem?_pos, List.getElem?_cons_zero, List.getElem?_cons_succ, go_sem, eqV, plen, loadV, storeV, bx, bx17, hn, hf, hi16, hI16, hI17, hJ17, hi17, hiI, hiJ, hv, hu, e4, e5, IntKind.bits])
          · simp
        · (refine ⟨0, ?_⟩; simp (maxSteps := 2000000) -implicitDefEqProofs [-getElem?_pos, List.getElem?_cons_zero, List.getElem?_cons_succ, go_sem, eqV, plen, loadV, storeV, e4, List.getD_eq_getElem?_getD, hv, hu, bx, bx17])
  generalize firstL n 15 1 z17 = F at hlen ⊢
  have hF : F.length = 17 := hlen
  apply Run.seq
  · (refine ⟨0, ?_⟩; conv => lhs; simp (maxSteps := 2000000) -implicitDefEqProofs [-getElem?_pos, List.getElem?_cons_zero, List.getElem?_cons_succ, go_sem, eqV, plen, loadV, storeV, bx, bx17, z17, hF])
  · exact ⟨0, rfl⟩

def ckV (l : List Int) : AV := .tup [.bool (checkR l).1, .int .i64 (checkR l).2]

theorem check_ev (c : Nat) (l : List Int) (h63 : l.length < 9223372036854775808) : Ev1 X 50 [.ro c (.pi .i64 l) 1] [] (ckV l, []) := by
  obtain ⟨code, hb, hr⟩ := check_code c l h63
  exact Ev1.plain (l := [.bool (checkR l).1, .int .i64 (checkR l).2]) T1_below Try.func50 hb rfl rfl (by simp [gtag]) hr (.inr rfl) rfl rfl rfl

theorem firsts_ev (n : List Int) (hn : n.length = 16) : Ev1 X 52 [.agg (.pi .i64 n)] [] (.agg (.pi .i64 (firstsR n)), []) := by
  obtain ⟨code, hb, hr⟩ := firsts_code (fun _ _ _ => .none) n hn
  have hF : (firstsR n).length = 17 := firstL_len _ _ _ _
  exact Ev1.plain (l := [.agg (.pi .i64 (firstsR n))]) Below.none Try.func52 hb rfl rfl (by simp [gtag]) hr (.inr rfl) (by
    have : Try.f52.results.toList = [.cell 2 76] := rfl
    rw [this]
    simp [-getElem?_pos, List.getElem?_cons_zero, List.getElem?_cons_succ, resultsV, loadV, getF, live, bx, bx17, pagg, hF, retagP]) rfl rfl

def S2 (f : Nat) (xs : List AV) : Option (AV × AM.Heap) :=
  match f, xs with
  | 50, [.ro _ (.pi .i64 l) 1] => if l.length < 9223372036854775808 then some (ckV l, []) else .none
  | 52, [.agg (.pi .i64 n)] => if n.length = 16 then some (.agg (.pi .i64 (firstsR n)), []) else .none
  | f, xs => S1 f xs

theorem S2_ok : ∀ f xs v N, S2 f xs = some (v, N) → Ev1 X f xs [] (v, N) := by
  intro f xs v N h
  unfold S2 at h
  split at h
  · split at h
    · rename_i hl
      simp only [Option.some.injEq, Prod.mk.injEq] at h
      obtain ⟨rfl, rfl⟩ := h
      exact check_ev _ _ hl
    · cases h
  · split at h
    · rename_i hl
      simp only [Option.some.injEq, Prod.mk.injEq] at h
      obtain ⟨rfl, rfl⟩ := h
      exact firsts_ev _ hl
    · cases h
  · exact S1_ok _ _ _ _ h

noncomputable def T2 : Cf := lentT X S2
theorem T2_below : Below X T2 := lentT_below S2_ok

theorem T2_counts {H : AM.Heap} {a : AV} {l : List Int} (h : payOf H a = some (.pi .i64 l)) (hl : l.length < 9223372036854775808) : T2 51 [a] H = some (cnt l, H) := by
  obtain ⟨c, x, hx⟩ := args_pay (C := X) (f := 51) (i := 0) rfl h (args_nil 1)
  unfold T2 lentT
  rw [hx]
  simp [S1, S2, hl, idsL, ids, cnt, cleanV, cleanH, tags, tagsL, shiftV, shiftH, ren, renL]

theorem T2_check {H : AM.Heap} {a : AV} {l : List Int} (h : payOf H a = some (.pi .i64 l)) (hl : l.length < 9223372036854775808) : T2 50 [a] H = some (ckV l, H) := by
  obtain ⟨c, x, hx⟩ := args_pay (C := X) (f := 50) (i := 0) rfl h (args_nil 1)
  unfold T2 lentT
  rw [hx]
  simp [S2, hl, idsL, ids, ckV, cleanV, cleanH, tags, tagsL, shiftV, shiftH, ren, renL]

theorem T2_firsts {H : AM.Heap} {n : List Int} (hn : n.length = 16) : T2 52 [.agg (.pi .i64 n)] H = some (.agg (.pi .i64 (firstsR n)), H) := by
  unfold T2 lentT
  rw [args_flat (C := X) (f := 52) (i := 0) rfl rfl (args_nil 1)]
  simp [S2, hn, idsL, ids, cleanV, cleanH, tags, tagsL, shiftV, shiftH, ren, renL]

end Go.Proofs.Yteblpjhkgdpchaa

/- Walks: Codes. -/
namespace Go.Proofs.Yteblpjhkgdpchaa
open Go.AM
set_option linter.unusedSimpArgs false
set_option linter.unusedVariables false

/-- a nil slice of ints, a slice of ints with xs much room xs it has elements -/
def nilI : Option AM.Obj := some { p := .pi .i64 [], g := 0, cap := .none, z := 0, row := true, ids := false, tg := 0 }
def rowI (k : Nat) (l : List Int) : Option AM.Obj := some { p := .pi .i64 l, g := 0, cap := some k, z := 1, row := true, ids := false, tg := 0 }

/-- codes by lengths, the next code of each length -/
def codesL : List Int → List Int → List Int
  | _, [] => []
  | next, x :: r => if 0 < x then next.getD x.toNat 0 :: codesL (next.set x.toNat (IntKind.i64.wrap (next.getD x.toNat 0 + 1))) r else -1 :: codesL next r

/-- what is next behind them -/
def codesN : List Int → List Int → List Int
  | next, [] => next
  | next, x :: r => if 0 < x then codesN (next.set x.toNat (IntKind.i64.wrap (next.getD x.toNat 0 + 1))) r else codesN next r

theorem codesL_len : ∀ (next l : List Int), (codesL next l).length = l.length
  | _, [] => rfl
  | next, x :: r => by
    simp only [codesL]
    split <;> simp [codesL_len _ r]

def codesR (l : List Int) : List Int := codesL (firstsR (countsR l).1) l

theorem set_mid (pre : List Int) (v w : Int) (n k : Nat) (h : k = pre.length) : (pre ++ List.replicate (n + 1) v).set k w = (pre ++ [w]) ++ List.replicate n v := by
  subst h
  rw [List.set_append_right _ _ (Nat.le_refl _), Nat.sub_self, List.replicate_succ, List.set_cons_zero]
  simp

/-- the frame of Codes' loop -/
def coFr (c : Nat) (l : List Int) (i : Nat) : AM.Frame := [(8, .ptr 2 0 0 0), (9, .sl 3 0 l.length 0), (30, .ro c (.pi .i64 l) 1), (31, .int .i64 l.length), (32, .int .i64 (i : Nat))]

set_option maxRecDepth 100000 in
theorem codes_code (c : Nat) (l : List Int) (he : (checkR l).2 = 0) : ∃ code, Try.f31.body = some code ∧
    Run X T2 31 0 code [(0, .ro c (.pi .i64 l) 1)] [] ⟨.ret, [(2, .sl 3 0 l.length 0), (3, .int .i64 0)], [nilI, bx (countsR l).1, bx17 (codesN (firstsR (countsR l).1) l), rowI l.length (codesR l)]⟩ := by
  have hce : (countsR l).2 = 0 := by
    unfold checkR at he
    split at he
    · assumption
    · rename_i h; exact absurd he h
  obtain ⟨h320, hall⟩ := countsR_ok hce
  have h63 : l.length < 9223372036854775808 := by omega
  have hn := countsR_len l
  have hm1 : (l.length : Int) ≤ 9223372036854775807 := by omega
  have hm2 : 8 * (l.length : Int) ≤ 140737488355328 := by omega
  have hT := fun H => T2_check (H := H) (a := .ro c (.pi .i64 l) 1) rfl h63
  have hC := fun H => T2_counts (H := H) (a := .ro c (.pi .i64 l) 1) rfl h63
  have hF := fun H => T2_firsts (H := H) hn
  unfold ckV at hT
  unfold cnt at hC
  unfold codesR
  rw [hce] at hC
  have hf : (firstsR (countsR l).1).length = 17 := firstL_len _ _ _ _
  generalize (countsR l).1 = n at hn hC hF hf ⊢
  generalize firstsR n = next0 at hF hf ⊢
  refine ⟨_, rfl, ?_⟩
  apply Run.seq
  · (refine ⟨0, ?_⟩; conv => lhs; simp (maxSteps := 2000000) -implicitDefEqProofs [-getElem?_pos, List.getElem?_cons_zero, List.getElem?_cons_succ, go_sem, eqV, plen, loadV, storeV, rowOf, emptyRow])
  apply Run.seq
  · (refine ⟨0, ?_⟩; conv => lhs; simp (maxSteps := 2000000) -implicitDefEqProofs [-getElem?_pos, List.getElem?_cons_zero, List.getElem?_cons_succ, go_sem, eqV, plen, loadV, storeV, hT, he])
  apply Run.seq
  · (refine ⟨0, ?_⟩; conv => lhs; simp (maxSteps := 2000000) -implicitDefEqProofs [-getElem?_pos, List.getElem?_cons_zero, List.getElem?_cons_succ, go_sem, eqV, plen, loadV, storeV, hC, hn])
  apply Run.seq
  · (refine ⟨0, ?_⟩; conv => lhs; simp (maxSteps := 2000000) -implicitDefEqProofs [-getElem?_pos, List.getElem?_cons_zero, List.getElem?_cons_succ, go_sem, eqV, plen, loadV, storeV, hF, hn, hf])
  apply Run.seq (fr' := [(0, .ro c (.pi .i64 l) 1), (8, .ptr 2 0 0 0), (9, .sl 3 0 l.length 0)]) (H' := [nilI, bx n, bx17 next0, rowI l.length (List.replicate l.length 0)])
  · (refine ⟨0, ?_⟩; simp (maxSteps := 2000000) -implicitDefEqProofs [-getElem?_pos, List.getElem?_cons_zero, List.getElem?_cons_succ, go_sem, eqV, plen, loadV, storeV, makeSliceV, zeroRow, cellsAV, scalars, idsL, ids, tagsL, rowOf, hm1, hm2, nilI, bx, bx17, rowI])
  apply Run.seq (fr' := coFr c l l.length ++ [(33, .bool false)]) (H' := [nilI, bx n, bx17 (codesN next0 l), rowI l.length (codesL next0 l)])
  · apply Run.seq (fr' := coFr c l 0) (H' := [nilI, bx n, bx17 next0, rowI l.length ([] ++ List.replicate l.length 0)])
    · (refine ⟨0, ?_⟩; simp (maxSteps := 2000000) -implicitDefEqProofs [-getElem?_pos, List.getElem?_cons_zero, List.getElem?_cons_succ, go_sem, eqV, plen, loadV, storeV, coFr])
    · apply Run.block_exit
      refine Run.loop_rule (σ := List Int × List Int × List Int × List Int) (fun s => s.1.length = 17 ∧ s.2.1.length = s.2.2.1.length ∧ s.2.2.1 ++ s.2.2.2 = l) (fun s => coFr c l s.2.2.1.length)
        (fun s => [nilI, bx n, bx17 s.1, rowI l.length (s.2.1 ++ List.replicate s.2.2.2.length 0)])
        (fun s => ⟨.exit 0, coFr c l l.length ++ [(33, .bool false)], [nilI, bx n, bx17 (codesN s.1 s.2.2.2), rowI l.length (s.2.1 ++ codesL s.1 s.2.2.2)]⟩) (fun s => s.2.2.2.length) ?_ (next0, [], [], l) ⟨hf, rfl, rfl⟩
      rintro ⟨next, pre, done, todo⟩ ⟨hnx, hpre, hd⟩
      simp only at hnx hpre hd ⊢
      cases todo with
      | nil =>
        right
        have hlen : done.length = l.length := by rw [← hd]; simp
        refine ⟨?_, by simp⟩
        simp only [codesL, codesN, List.append_nil]
        apply Run.seq
        · (refine ⟨0, ?_⟩; conv => lhs; simp (maxSteps := 2000000) -implicitDefEqProofs [-getElem?_pos, List.getElem?_cons_zero, List.getElem?_cons_succ, go_sem, eqV, plen, loadV, storeV, hlen, coFr])
        · apply Run.seq_out
          · exact Run.cond (d := false) rfl ⟨0, rfl⟩
          · simp
      | cons x todo =>
        left
        have hlt : done.length < l.length := by rw [← hd]; simp
        have hget : l[done.length]? = some x := by rw [← hd]; simp
        have hx := hall x (by rw [← hd]; simp)
        have hltI : (done.length : Int) < (l.length : Int) := by omega
        have e : IntKind.i64.wrap ((done.length : Int) + 1) = (done.length : Int) + 1 := wrap_i64 (by omega) (by omega)
        have hlp : done.length < (pre ++ List.replicate (todo.length + 1) (0 : Int)).length := by simp; omega
        have hset : ∀ w, (pre ++ List.replicate (todo.length + 1) 0).set done.length w = (pre ++ [w]) ++ List.replicate todo.length 0 := fun w => set_mid pre 0 w todo.length done.length hpre.symm
        generalize hP : pre ++ List.replicate (todo.length + 1) (0 : Int) = P at hlp hset
        by_cases hx0 : 0 < x
        · obtain ⟨v, hv⟩ : ∃ v, next[x.toNat]? = some v := ⟨next[x.toNat]'(by omega), List.getElem?_eq_getElem (by omega)⟩
          have hx17 : x < 17 := by omega
          have hn17 : x.toNat < 17 := by omega
          refine ⟨(next.set x.toNat (IntKind.i64.wrap (v + 1)), pre ++ [v], done ++ [x], todo), ⟨by simpa using hnx, by simpa using hpre, by simpa using hd⟩, ?_, ?_, by simp⟩
          · apply Run.seq
            · (refine ⟨0, ?_⟩; conv => lhs; simp (maxSteps := 2000000) -implicitDefEqProofs [-getElem?_pos, List.getElem?_cons_zero, List.getElem?_cons_succ, go_sem, eqV, plen, loadV, storeV, hltI, coFr])
            apply Run.seq
            · exact Run.cond (d := true) rfl ⟨0, rfl⟩
            apply Run.seq
            · apply Run.block
              · (refine ⟨0, ?_⟩; conv => lhs; simp (maxSteps := 2000000) -implicitDefEqProofs [-getElem?_pos, List.getElem?_cons_zero, List.getElem?_cons_succ, go_sem, eqV, plen, loadV, storeV, hget, hlt, nilI, bx, bx17, rowI, hx0, hx.1, hx17, hn17, hnx, hv, hlp])
              · simp
            · (refine ⟨0, ?_⟩; simp (maxSteps := 2000000) -implicitDefEqProofs [-getElem?_pos, List.getElem?_cons_zero, List.getElem?_cons_succ, go_sem, eqV, plen, loadV, storeV, e, coFr, nilI, bx, bx17, rowI, hset])
          · simp [codesL, codesN, hx0, List.getD_eq_getElem?_getD, hv]
        · refine ⟨(next, pre ++ [-1], done ++ [x], todo), ⟨hnx, by simpa using hpre, by simpa using hd⟩, ?_, ?_, by simp⟩
          · apply Run.seq
            · (refine ⟨0, ?_⟩; conv => lhs; simp (maxSteps := 2000000) -implicitDefEqProofs [-getElem?_pos, List.getElem?_cons_zero, List.getElem?_cons_succ, go_sem, eqV, plen, loadV, storeV, hltI, coFr])
            apply Run.seq
            · exact Run.cond (d := true) rfl ⟨0, rfl⟩
            apply Run.seq
            · apply Run.block
              · (refine ⟨0, ?_⟩; conv => lhs; simp (maxSteps := 2000000) -implicitDefEqProofs [-getElem?_pos, List.getElem?_cons_zero, List.getElem?_cons_succ, go_sem, eqV, plen, loadV, storeV, hget, hlt, nilI, bx, bx17, rowI, hx0, hlp])
              · simp
            · (refine ⟨0, ?_⟩; simp (maxSteps := 2000000) -implicitDefEqProofs [-getElem?_pos, List.getElem?_cons_zero, List.getElem?_cons_succ, go_sem, eqV, plen, loadV, storeV, e, coFr, nilI, bx, bx17, rowI, hset])
          · simp [codesL, codesN, hx0]
  apply Run.seq
  · (refine ⟨0, ?_⟩; conv => lhs; simp (maxSteps := 2000000) -implicitDefEqProofs [-getElem?_pos, List.getElem?_cons_zero, List.getElem?_cons_succ, go_sem, eqV, plen, loadV, storeV, coFr])
  · exact ⟨0, rfl⟩

end Go.Proofs.Yteblpjhkgdpchaa
