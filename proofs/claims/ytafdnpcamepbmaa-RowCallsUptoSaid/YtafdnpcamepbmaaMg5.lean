/- VA to X4: texts of this claim, one behind the other; what each shows stands at its head. -/
import Derived.Test.YtafdnpcamepbmaaAm3
import Derived.Test.YtafdnpcamepbmaaMg4
/- Walks: the document's moment, appended: its end. -/
namespace Go.Proofs.Ytafdnpcamepbmaa
open Go.AM
set_option linter.unusedSimpArgs false
set_option linter.unusedVariables false

theorem rfx_code (c : Nat) (b : List UInt8) (x n : Nat) (hc : c = 0 → b = []) (hb : b.length ≤ 1000000) (h1 : 1 ≤ n) (h8 : n ≤ 8) (hx : x < 256 ^ n) : ∃ code, Try.f40.body = some code ∧
    Tells (Rets fun fr H => ∃ o g ob, getF fr 6 = .sl o 0 (b.length + n) g ∧ H[o]? = some (some ob) ∧ Rw (.pb (b ++ leB n x)) g ob) X (evT X) 40 0 code [(0, .ro c (.pb b) 1), (1, .int .u64 (x : Nat)), (2, .int .i64 (n : Nat))] [] := by
  refine ⟨_, rfl, ?_⟩
  obtain ⟨ob1, hw1, hA⟩ := raf_ev (H := [some nilB]) (a := .ro c (.pb b) 1) (b := b) (x := x) (n := n) (Byt.ro (.inl rfl) hc) (by omega) h1 h8 hx
  refine Tells.of (o := ⟨.ret, [(6, .sl 1 0 (b.length + n) 0)], [some nilB, some ob1]⟩) ⟨0, ?_⟩ ⟨rfl, 1, 0, ob1, rfl, rfl, hw1⟩
  simp (maxSteps := 2000000) -implicitDefEqProofs [-getElem?_pos, List.getElem?_cons_zero, List.getElem?_cons_succ, go_sem, eqV, plen, loadV, storeV, assignV, emB, hA]

theorem rfx_ev {H : AM.Heap} {a : AV} {b : List UInt8} {x n : Nat} {N : Int} (h : Byt H a b) (hN : N = (n : Nat)) (hb : b.length ≤ 1000000) (h1 : 1 ≤ n) (h8 : n ≤ 8) (hx : x < 256 ^ n) :
    ∃ ob, Rw (.pb (b ++ leB n x)) 0 ob ∧ evT X 40 [a, .int .u64 (x : Nat), .int .i64 N] H = some (.sl H.length 0 (b.length + n) 0, H ++ [some ob]) := by
  subst hN
  obtain ⟨c, p, xl, hp, hc, hx'⟩ := args_byt (C := X) (f := 40) (i := 0) rfl h (args_flat (i := 1) (a := .int .u64 (x : Nat)) rfl rfl (args_flat (i := 2) (a := .int .i64 (n : Nat)) rfl rfl (args_nil 3)))
  obtain ⟨code, hcode, hr⟩ := rfx_code c b x n hc hb h1 h8 hx
  obtain ⟨ob, q1, q2⟩ := Ev1.newB (H := H) (n := b.length + n) (l := b ++ leB n x) (rest := []) (evT_below X) Try.func40 hcode hx' (by simp [idsL, ids, hp.ids]) (by simp [gtag]) rfl rfl rfl (by
    obtain ⟨o, ⟨he, o1, g, ob, q1, q3, q4⟩, hrun⟩ := hr
    exact ⟨o, ⟨he, o1, g, ob, by show some [getF o.fr 6] = _; rw [q1], q3, q4⟩, by rw [par40, coB hp]; exact hrun⟩)
  exact ⟨ob, q1, evT_eq q2⟩

noncomputable def mtE : Option Code := ((((Try.f41.body).bind cR).bind cR).bind cR)

theorem Byt.whole' {H : AM.Heap} {o g : Nat} {ob : AM.Obj} {l : List UInt8} (ho : H[o]? = some (some ob)) (h : Rw (.pb l) g ob) : Byt H (.sl o 0 l.length g) l := Byt.whole ho h

section
variable (c : Nat) (b own : List UInt8) (w : Wh)

set_option maxRecDepth 100000 in
set_option maxHeartbeats 4000000 in
theorem mt_end (H : AM.Heap) (o g : Nat) (ob : AM.Obj) (fr : AM.Frame) (hc : c = 0 → b = []) (hb : b.length ≤ 100000) (how : own.length ≤ 100) (h0 : H[0]? = some (some (whO w))) (ho : H[o]? = some (some ob)) (hw : Rw (.pb own) g ob) (hu : 0 ≤ w.us ∧ w.us < 4294967296) : ∃ code, mtE = some code ∧
    Tells (Rets fun fr H => ∃ o g ob, getF fr 6 = .sl o 0 (b ++ (UInt8.ofNat (own ++ usB w).length :: (own ++ usB w))).length g ∧ H[o]? = some (some ob) ∧ Rw (.pb (b ++ (UInt8.ofNat (own ++ usB w).length :: (own ++ usB w)))) g ob)
      X (evT X) 41 0 code ([(0, .ro c (.pb b) 1), (4, .ptr 0 0 0 0), (7, .sl o 0 own.length g)] ++ fr) H := by
  refine ⟨_, rfl, ?_⟩
  have fin0 : ∀ (H : AM.Heap) (o g : Nat) (ob : AM.Obj) (own : List UInt8) (fr0 : AM.Frame), getF fr0 0 = .ro c (.pb b) 1 → getF fr0 7 = .sl o 0 own.length g → own.length ≤ 120 → H[o]? = some (some ob) → Rw (.pb own) g ob → ∀ code, ((mtE.bind cR)) = some code →
      Tells (Rets fun fr H => ∃ o g ob, getF fr 6 = .sl o 0 (b ++ (UInt8.ofNat own.length :: own)).length g ∧ H[o]? = some (some ob) ∧ Rw (.pb (b ++ (UInt8.ofNat own.length :: own))) g ob)
      X (evT X) 41 0 code fr0 H := by
    intro H o g ob own fr0 hf0 hf7 how ho hw code hcode
    have gen : ∃ code, (mtE.bind cR) = some code ∧ Tells (Rets fun fr H => ∃ o g ob, getF fr 6 = .sl o 0 (b ++ (UInt8.ofNat own.length :: own)).length g ∧ H[o]? = some (some ob) ∧ Rw (.pb (b ++ (UInt8.ofNat own.length :: own))) g ob)
      X (evT X) 41 0 code fr0 H := by
      refine ⟨_, rfl, ?_⟩
      have hb0 := fun H => bs0 H
      have hlt : o < H.length := (List.getElem?_eq_some_iff.1 ho).1
      have hA0 := app_lit (H := H) (m := b) (src := .ro c (.pb b) 1) (srcB (.inl rfl)) (by omega)
      have hw0 : Rw (.pb b) 0 ⟨.pb b, 0, .none, 1, true, false, 0⟩ := ⟨rfl, rfl, rfl, rfl, rfl⟩
      generalize (⟨.pb b, 0, .none, 1, true, false, 0⟩ : AM.Obj) = ob0 at *
      have hg := hw.g
      have hp := hw.p
      have hi := hw.ids
      have ht := hw.tg
      obtain ⟨ob1, hw1, hA1⟩ := app_b (H := H ++ [some ob0]) (o := H.length) (m := [UInt8.ofNat own.length]) (src := .ro 1 (.pb [UInt8.ofNat own.length]) 0) (cat_at H _) hw0 (.inl rfl) (by simp; omega)
      rw [show upd (H ++ [some ob0]) H.length (some ob1) = H ++ [some ob1] from cat_set H _ _] at hA1
      have ho1 : (H ++ [some ob1])[o]? = some (some ob) := by rw [List.getElem?_append_left hlt]; exact ho
      obtain ⟨ob2, hw2, hA2⟩ := app_b (H := H ++ [some ob1]) (o := H.length) (m := own) (src := .sl o 0 own.length g) (cat_at H _) hw1 (.inl (by simp [srcV, live, ho1, hg, hi, hp, psub, payB, ptag])) (by simp; omega)
      rw [show upd (H ++ [some ob1]) H.length (some ob2) = H ++ [some ob2] from cat_set H _ _] at hA2
      have wl : IntKind.u8.wrap (own.length : Int) = (own.length : Int) := wrap_u8 (by omega) (by omega)
      have hbl := fun H => bsK H (UInt8.ofNat own.length) (own.length : Int) (by simp; omega)
      have ho0 : (H ++ [some ob0])[o]? = some (some ob) := by rw [List.getElem?_append_left hlt]; exact ho
      refine Tells.of (o := ⟨.ret, [(6, .sl H.length 0 (b.length + 1 + own.length) 2)], H ++ [some ob2]⟩) ⟨0, ?_⟩ ⟨rfl, H.length, 2, ob2, by simp [getF]; omega, cat_at H _, by simpa using hw2⟩
      simp only [List.length_append, List.length_cons, List.length_nil, Nat.zero_add] at hA1 hA2
      generalize UInt8.ofNat own.length = ol at *
      generalize own.length = n at *
      generalize H.length = hl at *
      simp (maxSteps := 2000000) -implicitDefEqProofs [-getElem?_pos, List.getElem?_cons_zero, List.getElem?_cons_succ, go_sem, eqV, plen, loadV, storeV, hf0, hf7, hb0, hA0, ho0, ho1, hg, wl, hbl, hA1, hA2, assignV]
    obtain ⟨code', h1, h2⟩ := gen
    rw [hcode] at h1
    exact (Option.some.inj h1) ▸ h2
  have fin := fun (H : AM.Heap) (o g : Nat) (ob : AM.Obj) (own : List UInt8) (tl : AM.Frame) (how : own.length ≤ 120) (ho : H[o]? = some (some ob)) (hw : Rw (.pb own) g ob) (code : Code) (hcode : (mtE.bind cR) = some code) => fin0 H o g ob own ([(0, .ro c (.pb b) 1), (4, .ptr 0 0 0 0), (7, .sl o 0 own.length g)] ++ tl) rfl rfl how ho hw code hcode
  have fin2 := fun (H : AM.Heap) (o g : Nat) (ob : AM.Obj) (own : List UInt8) (how : own.length ≤ 120) (ho : H[o]? = some (some ob)) (hw : Rw (.pb own) g ob) (code : Code) (hcode : (mtE.bind cR) = some code) => fin0 H o g ob own [(0, .ro c (.pb b) 1), (7, .sl o 0 own.length g)] rfl rfl how ho hw code hcode
  unfold usB
  have hg := hw.g
  by_cases hus : w.us = 0
  · rw [if_pos hus, List.append_nil]
    apply Tells.seq (fr' := [(0, .ro c (.pb b) 1), (4, .ptr 0 0 0 0), (7, .sl o 0 own.length g)] ++ [(69, .bool false)]) (H' := H)
    · generalize own.length = n at *
      (refine ⟨0, ?_⟩; simp (maxSteps := 2000000) -implicitDefEqProofs [-getElem?_pos, List.getElem?_cons_zero, List.getElem?_cons_succ, go_sem, eqV, plen, loadV, storeV, h0, whO, Wh.pay, hus])
    exact fin H o g ob own _ (by omega) ho hw _ rfl
  · rw [if_neg hus]
    have husb : (w.us != 0) = true := by simpa using hus
    obtain ⟨un, hun⟩ : ∃ n : Nat, w.us = (n : Int) := ⟨w.us.toNat, by omega⟩
    have eu : w.us.toNat = un := by rw [hun]; simp
    rw [eu]
    have wd : IntKind.u64.wrap w.us = (un : Int) := by rw [hun]; exact wrap_u64 (by omega) (by omega)
    obtain ⟨ob2, hw2, hF⟩ := rfx_ev (H := H) (a := .sl o 0 own.length g) (b := own) (x := un) (n := 4) (N := 4) (Byt.whole' ho hw) rfl (by omega) (by omega) (by omega) (by omega)
    apply Tells.seq (fr' := [(0, .ro c (.pb b) 1), (7, .sl H.length 0 (own.length + 4) 0)]) (H' := H ++ [some ob2])
    · generalize own.length = n at *
      generalize hHl : H.length = hl at *
      (refine ⟨0, ?_⟩; simp (maxSteps := 2000000) -implicitDefEqProofs [-getElem?_pos, List.getElem?_cons_zero, List.getElem?_cons_succ, go_sem, eqV, plen, loadV, storeV, h0, whO, Wh.pay, husb, wd, hF, assignV])
    have := fin2 (H ++ [some ob2]) H.length 0 ob2 (own ++ leB 4 un) (by simp [leB_len]; omega) (cat_at H _) hw2 _ rfl
    rw [show (own ++ leB 4 un).length = own.length + 4 by simp [leB_len]] at this ⊢
    exact this

end

end Go.Proofs.Ytafdnpcamepbmaa

/- Walks: the document's moment, appended. -/
namespace Go.Proofs.Ytafdnpcamepbmaa
open Go.AM
set_option linter.unusedSimpArgs false
set_option linter.unusedVariables false

noncomputable def mtO : Option Code := ((((Try.f41.body).bind cR).bind cR).bind cL)

def mtP (c : Nat) (b : List UInt8) (w : Wh) (t : Nat) (fr : AM.Frame) (H : AM.Heap) : Prop :=
  ∃ o g ob own tl, fr = [(0, .ro c (.pb b) 1), (4, .ptr 0 0 0 0), (7, .sl o 0 own.length g)] ++ tl ∧ H[0]? = some (some (whO w)) ∧ H[o]? = some (some ob) ∧ Rw (.pb own) g ob ∧ own.length ≤ 100 ∧ (UInt8.ofNat (own ++ usB w).length :: (own ++ usB w)) = whB w t

theorem span_zero {w : Wh} (hf : fin w 11 = true) : (w.d = 0 ∧ mid w = true) ↔ w = {} := by
  unfold fin btw at hf
  simp only [Bool.and_eq_true, decide_eq_true_eq, if_true, Bool.not_eq_true', Bool.and_eq_false_iff] at hf
  unfold mid
  obtain ⟨neg, y, mo, d, h, mi, s, us⟩ := w
  simp only [decide_eq_true_eq, Wh.mk.injEq] at *
  constructor
  · rintro ⟨h1, h2, h3, h4, h5⟩
    refine ⟨?_, hf.2.1, hf.2.2.1, h1, h2, h3, h4, h5⟩
    rcases hf.2.2.2.2 with h6 | h6 | h6
    · exact h6
    · simp only [decide_eq_false_iff_not] at h6; exact absurd h1 h6
    · unfold mid at h6; simp only [decide_eq_false_iff_not] at h6; exact absurd ⟨h2, h3, h4, h5⟩ h6
  · rintro ⟨h1, h2, h3, h4, h5, h6, h7, h8⟩
    exact ⟨h4, h5, h6, h7, h8⟩

section
variable (c : Nat) (b : List UInt8) (w : Wh)

set_option maxRecDepth 100000 in
set_option maxHeartbeats 4000000 in
theorem mt_span (hf : fin w 11 = true) : ∃ code, mtO = some code ∧ Tells (Goes (mtP c b w 11)) X (evT X) 41 0 code [(0, .ro c (.pb b) 1), (2, .int .u8 11), (4, .ptr 0 0 0 0)] [some (whO w), some nilB, some nilB] := by
  refine ⟨_, rfl, ?_⟩
  have hck : clk w = true := by unfold fin at hf; simp only [Bool.and_eq_true] at hf; exact hf.1
  have hM := fun H => mid_ev hck H
  have hz := span_zero hf
  obtain ⟨n1, n2, n3, n4, n5, n6, n7, n8, n9, n10, n11, n12, n13, n14⟩ := fin_nn hf
  apply Tells.seq (fr' := [(0, .ro c (.pb b) 1), (4, .ptr 0 0 0 0), (10, .bool true)]) (H' := [some (whO w), some nilB, some nilB])
  · (refine ⟨0, ?_⟩; simp (maxSteps := 2000000) -implicitDefEqProofs [-getElem?_pos, List.getElem?_cons_zero, List.getElem?_cons_succ, go_sem, eqV, plen, loadV, storeV])
  apply tcondT (by simp [evalO, getF])
  apply Tells.seq
  · (refine ⟨0, ?_⟩; conv => lhs; simp (maxSteps := 2000000) -implicitDefEqProofs [-getElem?_pos, List.getElem?_cons_zero, List.getElem?_cons_succ, go_sem, eqV, plen, loadV, storeV])
  generalize hy : (if w.neg then (1 : UInt8) else 0) = y at *
  apply Tells.andThen (P := fun fr H => ∃ tl, fr = [(0, .ro c (.pb b) 1), (4, .ptr 0 0 0 0), (8, .int .u8 (y.toNat : Nat))] ++ tl ∧ H = [some (whO w), some nilB, some nilB])
  · cases hn : w.neg with
    | true =>
      rw [hn] at hy
      refine Tells.of (o := ⟨.normal, [(0, .ro c (.pb b) 1), (4, .ptr 0 0 0 0), (8, .int .u8 1)], [some (whO w), some nilB, some nilB]⟩) ⟨0, ?_⟩ ⟨rfl, [], by rw [← hy]; rfl, rfl⟩
      simp (maxSteps := 2000000) -implicitDefEqProofs [-getElem?_pos, List.getElem?_cons_zero, List.getElem?_cons_succ, go_sem, eqV, plen, loadV, storeV, whO, Wh.pay, hn]
    | false =>
      rw [hn] at hy
      refine Tells.of (o := ⟨.normal, [(0, .ro c (.pb b) 1), (4, .ptr 0 0 0 0), (8, .int .u8 0), (12, .bool false)], [some (whO w), some nilB, some nilB]⟩) ⟨0, ?_⟩ ⟨rfl, [(12, .bool false)], by rw [← hy]; rfl, rfl⟩
      simp (maxSteps := 2000000) -implicitDefEqProofs [-getElem?_pos, List.getElem?_cons_zero, List.getElem?_cons_succ, go_sem, eqV, plen, loadV, storeV, whO, Wh.pay, hn]
  rintro fr H ⟨tl, rfl, rfl⟩
  obtain ⟨dn, hdn⟩ : ∃ n : Nat, w.d = (n : Int) := ⟨w.d.toNat, by omega⟩
  obtain ⟨hn, hhn⟩ : ∃ n : Nat, w.h = (n : Int) := ⟨w.h.toNat, by omega⟩
  obtain ⟨mn, hmn⟩ : ∃ n : Nat, w.mi = (n : Int) := ⟨w.mi.toNat, by omega⟩
  obtain ⟨sn, hsn⟩ : ∃ n : Nat, w.s = (n : Int) := ⟨w.s.toNat, by omega⟩
  have ed : w.d.toNat = dn := by rw [hdn]; simp
  obtain ⟨ob3, hw3, hF⟩ := rfx_ev (H := [some (whO w), some nilB, some nilB]) (a := .ro 1 (.pb [y]) 0) (b := [y]) (x := dn) (n := 4) (N := 4) (Byt.ro (.inl rfl) (by omega)) rfl (by simp) (by omega) (by omega) (by omega)
  have hcl : clB w = [UInt8.ofNat hn, UInt8.ofNat mn, UInt8.ofNat sn] := by unfold clB; rw [hhn, hmn, hsn]; simp
  obtain ⟨ob4, hw4, hA⟩ := app_b (H := [some (whO w), some nilB, some nilB, some ob3]) (o := 3) (m := clB w) (src := .ro 1 (.pb (clB w)) 0) rfl hw3 (.inl rfl) (by simp [leB_len, clB])
  have l3 : ([y] ++ leB 4 dn).length = 5 := by simp [leB_len]
  rw [l3, hcl] at hA
  apply Tells.seq (fr' := [(0, .ro c (.pb b) 1), (4, .ptr 0 0 0 0), (7, .sl 3 0 8 1)]) (H' := [some (whO w), some nilB, some nilB, some ob4])
  · have hbs := fun H => bs1 H y
    have wd : IntKind.u64.wrap w.d = (dn : Int) := by rw [hdn]; exact wrap_u64 (by omega) (by omega)
    have w1 : IntKind.u8.wrap w.h = (hn : Int) := by rw [hhn]; exact wrap_u8 (by omega) (by omega)
    have w2 : IntKind.u8.wrap w.mi = (mn : Int) := by rw [hmn]; exact wrap_u8 (by omega) (by omega)
    have w3 : IntKind.u8.wrap w.s = (sn : Int) := by rw [hsn]; exact wrap_u8 (by omega) (by omega)
    have hbs3 := fun H => bs3n H hn mn sn (by omega) (by omega) (by omega)
    have hg3 := hw3.g
    have hi3 := hw3.ids
    have hp3 := hw3.p
    simp only [List.length_cons, List.length_nil, whO, Wh.pay, List.cons_append, List.nil_append] at hF hA
    clear hM hw4 hcl
    generalize [UInt8.ofNat hn, UInt8.ofNat mn, UInt8.ofNat sn] = cl at *
    apply Run.dy (by simp) keep41_6 (by simp)
    · (conv => lhs; simp (maxSteps := 2000000) -implicitDefEqProofs [-getElem?_pos, List.getElem?_cons_zero, List.getElem?_cons_succ, go_sem, eqV, plen, loadV, storeV, runD, out1, markOf, freeO, quietO, pushes, isAssign, calledV, touched, mentioned, opVals, touchCall, mentionCall, idsAt, Op.operands, ids, idsL, lendArgs, lendV, lend1, lendL, eqH_self, whO, Wh.pay, hbs, hbs3, wd, w1, w2, w3, hF, hA, upd, assignV, reach_none, hg3, hi3, hp3])
      rfl
    · kernel_rfl
    · rfl
  simp only [whO, Wh.pay] at hM
  by_cases hw0 : w = {}
  · have hb := hz.2 hw0
    rw [hb.2] at hM
    refine Tells.of (o := ⟨.normal, [(0, .ro c (.pb b) 1), (4, .ptr 0 0 0 0), (7, .sl 4 0 0 0)], [some (whO w), some nilB, some nilB, some ob4, some nilB]⟩) ⟨0, ?_⟩ ⟨rfl, 4, 0, nilB, [], [], rfl, rfl, rfl, nilB_rw, by simp, ?_⟩
    · have hd0 := hb.1
      rw [hd0] at hM
      simp (maxSteps := 2000000) -implicitDefEqProofs [-getElem?_pos, List.getElem?_cons_zero, List.getElem?_cons_succ, go_sem, eqV, plen, loadV, storeV, whO, Wh.pay, mkWh, hd0, hM, assignV, emB]
    · unfold whB spB usB
      rw [if_pos rfl, if_pos hw0]
      subst hw0
      rfl
  · refine Tells.of (o := ⟨.normal, [(0, .ro c (.pb b) 1), (4, .ptr 0 0 0 0), (7, .sl 3 0 8 1), (36, .bool false)], [some (whO w), some nilB, some nilB, some ob4]⟩) ⟨0, ?_⟩ ⟨rfl, 3, 1, ob4, [y] ++ leB 4 dn ++ clB w, [(36, .bool false)], by simp [leB_len, clB], rfl, rfl, hw4, by simp [leB_len, clB], ?_⟩
    · by_cases hd0 : w.d = 0
      · have hm : mid w = false := by
          cases hm : mid w with
          | false => rfl
          | true => exact absurd (hz.1 ⟨hd0, hm⟩) hw0
        rw [hm, hd0] at hM
        simp (maxSteps := 2000000) -implicitDefEqProofs [-getElem?_pos, List.getElem?_cons_zero, List.getElem?_cons_succ, go_sem, eqV, plen, loadV, storeV, whO, Wh.pay, mkWh, hd0, hM]
      · have hd0b : (w.d == 0) = false := by simpa using hd0
        simp (maxSteps := 2000000) -implicitDefEqProofs [-getElem?_pos, List.getElem?_cons_zero, List.getElem?_cons_succ, go_sem, eqV, plen, loadV, storeV, whO, Wh.pay, hd0b]
    · unfold whB spB
      rw [if_pos rfl, if_neg hw0, hy, ed]
      unfold usB
      by_cases hus : w.us = 0
      · rw [if_pos hus, if_pos hus]
        simp [leB_len, clB]
      · rw [if_neg hus, if_neg hus]
        simp [leB_len, clB]

theorem mo_mid {t : Nat} (h11 : t ≠ 11) (hf : fin w t = true) : (w = { y := w.y, mo := w.mo, d := w.d }) ↔ mid w = true := by
  unfold fin at hf
  rw [if_neg h11] at hf
  simp only [Bool.and_eq_true, Bool.not_eq_true'] at hf
  have hn := hf.2.1
  unfold mid
  obtain ⟨neg, y, mo, d, h, mi, s, us⟩ := w
  simp only [decide_eq_true_eq, Wh.mk.injEq, true_and] at *
  constructor
  · rintro ⟨_, h1, h2, h3, h4⟩; exact ⟨h1, h2, h3, h4⟩
  · rintro ⟨h1, h2, h3, h4⟩; exact ⟨hn, h1, h2, h3, h4⟩

set_option maxRecDepth 100000 in
set_option maxHeartbeats 4000000 in
theorem mt_moment (t : Nat) (ht : t < 256) (h11 : t ≠ 11) (hf : fin w t = true) : ∃ code, mtO = some code ∧ Tells (Goes (mtP c b w t)) X (evT X) 41 0 code [(0, .ro c (.pb b) 1), (2, .int .u8 (t : Nat)), (4, .ptr 0 0 0 0)] [some (whO w), some nilB, some nilB] := by
  refine ⟨_, rfl, ?_⟩
  have hck : clk w = true := by unfold fin at hf; simp only [Bool.and_eq_true] at hf; exact hf.1
  have hM := fun H => mid_ev hck H
  have hz := mo_mid w h11 hf
  have h11b : ((t : Int) == 11) = false := by simp; omega
  obtain ⟨n1, n2, n3, n4, n5, n6, n7, n8, n9, n10, n11, n12, n13, n14⟩ := fin_nn hf
  apply Tells.seq (fr' := [(0, .ro c (.pb b) 1), (4, .ptr 0 0 0 0), (10, .bool false)]) (H' := [some (whO w), some nilB, some nilB])
  · (refine ⟨0, ?_⟩; simp (maxSteps := 2000000) -implicitDefEqProofs [-getElem?_pos, List.getElem?_cons_zero, List.getElem?_cons_succ, go_sem, eqV, plen, loadV, storeV, h11b])
  apply tcondF (by simp [evalO, getF])
  obtain ⟨yn, hyn⟩ : ∃ n : Nat, w.y = (n : Int) := ⟨w.y.toNat, by omega⟩
  obtain ⟨on, hon⟩ : ∃ n : Nat, w.mo = (n : Int) := ⟨w.mo.toNat, by omega⟩
  obtain ⟨dn, hdn⟩ : ∃ n : Nat, w.d = (n : Int) := ⟨w.d.toNat, by omega⟩
  obtain ⟨hn, hhn⟩ : ∃ n : Nat, w.h = (n : Int) := ⟨w.h.toNat, by omega⟩
  obtain ⟨mn, hmn⟩ : ∃ n : Nat, w.mi = (n : Int) := ⟨w.mi.toNat, by omega⟩
  obtain ⟨sn, hsn⟩ : ∃ n : Nat, w.s = (n : Int) := ⟨w.s.toNat, by omega⟩
  have ey : w.y.toNat = yn := by rw [hyn]; simp
  have eo : w.mo.toNat = on := by rw [hon]; simp
  have ed : w.d.toNat = dn := by rw [hdn]; simp
  obtain ⟨ob3, hw3, hF⟩ := rfx_ev (H := [some (whO w), some nilB, some nilB]) (a := .ro 0 .pn 0) (b := []) (x := yn) (n := 2) (N := 2) Byt.nil rfl (by simp) (by omega) (by omega) (by omega)
  obtain ⟨ob4, hw4, hA⟩ := app_b (H := [some (whO w), some nilB, some nilB, some ob3]) (o := 3) (m := [UInt8.ofNat on, UInt8.ofNat dn]) (src := .ro 1 (.pb [UInt8.ofNat on, UInt8.ofNat dn]) 0) rfl hw3 (.inl rfl) (by simp [leB_len])
  have hcl : clB w = [UInt8.ofNat hn, UInt8.ofNat mn, UInt8.ofNat sn] := by unfold clB; rw [hhn, hmn, hsn]; simp
  obtain ⟨ob5, hw5, hA2⟩ := app_b (H := [some (whO w), some nilB, some nilB, some ob4]) (o := 3) (m := clB w) (src := .ro 1 (.pb (clB w)) 0) rfl hw4 (.inl rfl) (by simp [leB_len, clB])
  have l3 : (([] : List UInt8) ++ leB 2 yn).length = 2 := by simp [leB_len]
  have l4 : (([] : List UInt8) ++ leB 2 yn ++ [UInt8.ofNat on, UInt8.ofNat dn]).length = 4 := by simp [leB_len]
  rw [l3] at hA
  rw [l4, hcl] at hA2
  apply Tells.seq (fr' := [(0, .ro c (.pb b) 1), (4, .ptr 0 0 0 0), (7, .sl 3 0 4 1)]) (H' := [some (whO w), some nilB, some nilB, some ob4])
  · have wd : IntKind.u64.wrap w.y = (yn : Int) := by rw [hyn]; exact wrap_u64 (by omega) (by omega)
    have w1 : IntKind.u8.wrap w.mo = (on : Int) := by rw [hon]; exact wrap_u8 (by omega) (by omega)
    have w2 : IntKind.u8.wrap w.d = (dn : Int) := by rw [hdn]; exact wrap_u8 (by omega) (by omega)
    have hbs2 := fun H => bs2n H on dn (by omega) (by omega)
    have hg3 := hw3.g
    have hi3 := hw3.ids
    have hp3 := hw3.p
    simp only [List.length_cons, List.length_nil, whO, Wh.pay, List.cons_append, List.nil_append, Nat.zero_add] at hF hA
    clear hM hw4 hcl hA2 hw5
    generalize [UInt8.ofNat on, UInt8.ofNat dn] = od at *
    apply Run.dy (by simp) keep41_9 (by simp)
    · (conv => lhs; simp (maxSteps := 2000000) -implicitDefEqProofs [-getElem?_pos, List.getElem?_cons_zero, List.getElem?_cons_succ, go_sem, eqV, plen, loadV, storeV, runD, out1, markOf, freeO, quietO, pushes, isAssign, calledV, touched, mentioned, opVals, touchCall, mentionCall, idsAt, Op.operands, ids, idsL, lendArgs, lendV, lend1, lendL, eqH_self, whO, Wh.pay, hbs2, wd, w1, w2, hF, hA, upd, assignV, reach_none, hg3, hi3, hp3])
      rfl
    · kernel_rfl
    · rfl
  have hg4 := hw4.g
  unfold mtP
  cases hm : mid w with
  | false =>
    rw [hm] at hM
    simp only [whO, Wh.pay] at hM
    have hne : ¬ w = { y := w.y, mo := w.mo, d := w.d } := fun h => by rw [hz.1 h] at hm; cases hm
    have hw0 : ¬ w = {} := fun h => hne (by rw [h])
    refine Tells.of (o := ⟨.normal, [(0, .ro c (.pb b) 1), (4, .ptr 0 0 0 0), (7, .sl 3 0 7 2)], [some (whO w), some nilB, some nilB, some ob5]⟩) ⟨0, ?_⟩ ⟨rfl, 3, 2, ob5, _, [], by rw [List.length_append, l4, hcl]; rfl, rfl, rfl, hw5, by simp [leB_len, clB], ?_⟩
    · have w1 : IntKind.u8.wrap w.h = (hn : Int) := by rw [hhn]; exact wrap_u8 (by omega) (by omega)
      have w2 : IntKind.u8.wrap w.mi = (mn : Int) := by rw [hmn]; exact wrap_u8 (by omega) (by omega)
      have w3 : IntKind.u8.wrap w.s = (sn : Int) := by rw [hsn]; exact wrap_u8 (by omega) (by omega)
      have hbs3 := fun H => bs3n H hn mn sn (by omega) (by omega) (by omega)
      simp only [List.length_cons, List.length_nil, whO, Wh.pay] at hA2
      generalize [UInt8.ofNat hn, UInt8.ofNat mn, UInt8.ofNat sn] = cl at *
      simp (maxSteps := 2000000) -implicitDefEqProofs [-getElem?_pos, List.getElem?_cons_zero, List.getElem?_cons_succ, go_sem, eqV, plen, loadV, storeV, whO, Wh.pay, mkWh, hM, unV, w1, w2, w3, hbs3, hA2, upd]
    · unfold whB moB moN
      rw [if_neg h11, if_neg hw0, if_neg hne, if_neg hne, ey, eo, ed]
      unfold usB
      by_cases hus : w.us = 0
      · rw [if_pos hus, if_pos hus]
        simp [leB_len, clB]
      · rw [if_neg hus, if_neg hus]
        simp [leB_len, clB]
  | true =>
    rw [hm] at hM
    simp only [whO, Wh.pay] at hM
    have heq := hz.2 hm
    have hus : w.us = 0 := by unfold mid at hm; simp only [decide_eq_true_eq] at hm; exact hm.2.2.2
    have hE := fun H xo yo => eqWh w {} H xo yo
    have hb0 := bdW0
    simp only [Wh.pay, Int.cast_ofNat_Int] at hE
    by_cases hw0 : w = {}
    · rw [decide_eq_true hw0] at hE
      refine Tells.of (o := ⟨.normal, [(0, .ro c (.pb b) 1), (4, .ptr 0 0 0 0), (7, .sl 4 0 0 0)], [some (whO w), some nilB, some nilB, some ob4, some nilB]⟩) ⟨0, ?_⟩ ⟨rfl, 4, 0, nilB, [], [], rfl, rfl, rfl, nilB_rw, by simp, ?_⟩
      · generalize hz0 : (AV.pc [.bool false, .int .i64 0, .int .i64 0, .int .i64 0, .int .i64 0, .int .i64 0, .int .i64 0, .int .i64 0]) = pz at *
        simp (maxSteps := 2000000) -implicitDefEqProofs [-getElem?_pos, List.getElem?_cons_zero, List.getElem?_cons_succ, go_sem, eqV, plen, loadV, storeV, -eqV, whO, Wh.pay, mkWh, hM, unV, hb0, hE, assignV, emB]
      · unfold whB moB usB
        rw [if_neg h11, if_pos hw0, if_pos hus]
        rfl
    · rw [decide_eq_false hw0] at hE
      refine Tells.of (o := ⟨.normal, [(0, .ro c (.pb b) 1), (4, .ptr 0 0 0 0), (7, .sl 3 0 4 1), (66, .bool false)], [some (whO w), some nilB, some nilB, some ob4]⟩) ⟨0, ?_⟩ ⟨rfl, 3, 1, ob4, _, [(66, .bool false)], by rw [l4]; rfl, rfl, rfl, hw4, by simp [leB_len], ?_⟩
      · generalize hz0 : (AV.pc [.bool false, .int .i64 0, .int .i64 0, .int .i64 0, .int .i64 0, .int .i64 0, .int .i64 0, .int .i64 0]) = pz at *
        simp (maxSteps := 2000000) -implicitDefEqProofs [-getElem?_pos, List.getElem?_cons_zero, List.getElem?_cons_succ, go_sem, eqV, plen, loadV, storeV, -eqV, whO, Wh.pay, mkWh, hM, unV, hb0, hE]
      · unfold whB moB moN usB
        rw [if_neg h11, if_neg hw0, if_pos heq, if_pos heq, if_pos hus, ey, eo, ed]
        simp [leB_len]

set_option maxRecDepth 100000 in
theorem mt_code (t : Nat) (hc : c = 0 → b = []) (hb : b.length ≤ 100000) (ht : t < 256) (hf : fin w t = true) : ∃ code, Try.f41.body = some code ∧
    Tells (Rets fun fr H => ∃ o g ob, getF fr 6 = .sl o 0 (b ++ whB w t).length g ∧ H[o]? = some (some ob) ∧ Rw (.pb (b ++ whB w t)) g ob) X (evT X) 41 0 code [(0, .ro c (.pb b) 1), (1, .agg w.pay), (2, .int .u8 (t : Nat))] [] := by
  refine ⟨_, rfl, ?_⟩
  have hnn := fin_nn hf
  apply Tells.seq (fr' := [(0, .ro c (.pb b) 1), (2, .int .u8 (t : Nat)), (4, .ptr 0 0 0 0)]) (H' := [some (whO w), some nilB])
  · (refine ⟨0, ?_⟩; simp (maxSteps := 2000000) -implicitDefEqProofs [-getElem?_pos, List.getElem?_cons_zero, List.getElem?_cons_succ, go_sem, eqV, plen, loadV, storeV, whO, Wh.pay, assignV, emB])
  apply Tells.seq (fr' := [(0, .ro c (.pb b) 1), (2, .int .u8 (t : Nat)), (4, .ptr 0 0 0 0)]) (H' := [some (whO w), some nilB, some nilB])
  · (refine ⟨0, ?_⟩; simp (maxSteps := 2000000) -implicitDefEqProofs [-getElem?_pos, List.getElem?_cons_zero, List.getElem?_cons_succ, go_sem, eqV, plen, loadV, storeV, assignV, emB])
  apply Tells.andThen (P := mtP c b w t)
  · by_cases h11 : t = 11
    · subst h11
      exact pieceF (mt_span c b w hf) _ rfl
    · exact pieceF (mt_moment c b w t ht h11 hf) _ rfl
  rintro fr H ⟨o, g, ob, own, tl, rfl, h0, ho, hw, how, hB⟩
  have := pieceF (mt_end c b own w H o g ob tl hc hb how h0 ho hw ⟨hnn.2.2.2.2.2.2.2.2.2.2.2.2.1, hnn.2.2.2.2.2.2.2.2.2.2.2.2.2⟩) _ rfl
  rw [hB] at this
  exact this

end

theorem mt_ev {H : AM.Heap} {a : AV} {b : List UInt8} {w : Wh} {t : Nat} (h : Byt H a b) (hb : b.length ≤ 100000) (ht : t < 256) (hf : fin w t = true) :
    ∃ ob, Rw (.pb (b ++ whB w t)) 0 ob ∧ evT X 41 [a, .agg w.pay, .int .u8 (t : Nat)] H = some (.sl H.length 0 (b ++ whB w t).length 0, H ++ [some ob]) := by
  obtain ⟨c, p, xl, hp, hc, hx'⟩ := args_byt (C := X) (f := 41) (i := 0) rfl h (args_wh (f := 41) (i := 1) (w := w) (args_flat (i := 2) (a := .int .u8 (t : Nat)) rfl rfl (args_nil 3)))
  obtain ⟨code, hcode, hr⟩ := mt_code c b w t hc hb ht hf
  obtain ⟨ob, q1, q2⟩ := Ev1.newB (H := H) (n := (b ++ whB w t).length) (l := b ++ whB w t) (rest := []) (evT_below X) Try.func41 hcode hx' (by simp [Wh.pay, idsL, ids, hp.ids]) (by simp [gtag]) rfl rfl rfl (by
    obtain ⟨o, ⟨he, o1, g, ob, q1, q3, q4⟩, hrun⟩ := hr
    exact ⟨o, ⟨he, o1, g, ob, by show some [getF o.fr 6] = _; rw [q1], q3, q4⟩, by rw [par41, coB hp]; exact hrun⟩)
  exact ⟨ob, q1, evT_eq q2⟩

end Go.Proofs.Ytafdnpcamepbmaa

/- Walks: the document's value appended. -/
namespace Go.Proofs.Ytafdnpcamepbmaa
open Go.AM
set_option linter.unusedSimpArgs false
set_option linter.unusedVariables false

theorem leB_mod : ∀ n x, leB n (x % 256 ^ n) = leB n x
  | 0, x => rfl
  | n + 1, x => by
    simp only [leB]
    rw [Nat.pow_succ, Nat.mul_comm (256 ^ n) 256, Nat.mod_mul_right_mod, Nat.mod_mul_right_div_self, leB_mod n]

theorem and_mask {x k : Nat} (hx : x < 18446744073709551616) (hk : k ≤ 63) :
    IntKind.u64.wrap ((AM.bits .u64 (x : Int) &&& AM.bits .u64 (((2 ^ k - 1 : Nat)) : Int)).toNat : Nat) = ((x % 2 ^ k : Nat) : Int) := by
  have hb : ∀ v : Nat, v < 18446744073709551616 → (AM.bits .u64 (v : Int)).toNat = v := by
    intro v hv
    unfold AM.bits
    simp [IntKind.bits]
    omega
  have hp : 2 ^ k ≤ 2 ^ 63 := Nat.pow_le_pow_right (by omega) hk
  have e : (AM.bits .u64 (x : Int) &&& AM.bits .u64 (((2 ^ k - 1 : Nat)) : Int)).toNat = x % 2 ^ k := by
    rw [show (AM.bits .u64 (x : Int) &&& AM.bits .u64 (((2 ^ k - 1 : Nat)) : Int)).toNat = (AM.bits .u64 (x : Int)).toNat &&& (AM.bits .u64 (((2 ^ k - 1 : Nat)) : Int)).toNat by simp]
    rw [hb x hx, hb _ (by omega), Nat.and_two_pow_sub_one_eq_mod]
  rw [e]
  have := Nat.mod_lt x (Nat.pow_pos (n := k) (show 0 < 2 by omega))
  rw [wrap_u64 (by omega) (by omega)]

theorem ui_lt (i : Int) : ui i < 18446744073709551616 := by
  have h := ui_eq i
  have : IntKind.u64.wrap i < 18446744073709551616 := by
    unfold IntKind.wrap
    simp [IntKind.signed, IntKind.bits]
    exact Int.emod_lt_of_pos _ (by decide)
  omega

/-- the bits of a value that may be fit its type -/
theorem ok_bits {v : Va} {t : Ty} (h : chkV v t = 0) (hvb : v.b < 18446744073709551616) (hk : v.k = 2 ∨ v.k = 3 ∨ v.k = 4) : v.b < 256 ^ sizeN t.t := by
  rcases chk_ok h with rfl | h
  · exact absurd hk (by decide)
  unfold okVa okVk at h
  rw [if_neg (by omega), if_pos hk] at h
  simp only [Bool.and_eq_true, decide_eq_true_eq] at h
  obtain ⟨h1, h2, h3⟩ := h
  have hs := size_num (t := t.t) (u := t.u) (by omega)
  unfold okB at h3
  generalize sizeN t.t = n at *
  simp only [Bool.or_eq_true, decide_eq_true_eq] at h3
  rcases hs with rfl | rfl | rfl | rfl
  · rcases h3 with h3 | h3
    · omega
    · simpa using h3
  · rcases h3 with h3 | h3
    · omega
    · simpa using h3
  · rcases h3 with h3 | h3
    · omega
    · simpa using h3
  · simpa using hvb

section
variable (c : Nat) (b : List UInt8) (v : Va) (t : Ty)

set_option maxRecDepth 100000 in
set_option maxHeartbeats 4000000 in
theorem rvappend_code (hc : c = 0 → b = []) (hb : b.length ≤ 100000) (ht : t.t < 256) (hvb : v.b < 18446744073709551616) : ∃ code, Try.f25.body = some code ∧
    Tells (Rets fun fr H => ∃ o g ob, getF fr 6 = .sl o 0 (apV b v t).1.length g ∧ getF fr 7 = .int .i64 (apV b v t).2 ∧ H[o]? = some (some ob) ∧ Rw (.pb (apV b v t).1) g ob) X (evT X) 25 0 code [(0, .ro c (.pb b) 1), (1, .agg v.pay), (2, .agg t.pay)] [] := by
  refine ⟨_, rfl, ?_⟩
  have hC := rcheck_ev (v := v) (t := t) ht [some (vaO v), some (tyO t), some nilB]
  apply Tells.seq (fr' := [(0, .ro c (.pb b) 1), (4, .ptr 0 0 0 0), (5, .ptr 1 0 0 0)]) (H' := [some (vaO v), some (tyO t), some nilB])
  · (refine ⟨0, ?_⟩; simp (maxSteps := 2000000) -implicitDefEqProofs [-getElem?_pos, List.getElem?_cons_zero, List.getElem?_cons_succ, go_sem, eqV, plen, loadV, storeV, vaO, tyO, Va.pay, Ty.pay, assignV, emB])
  apply Tells.seq (fr' := [(0, .ro c (.pb b) 1), (4, .ptr 0 0 0 0), (5, .ptr 1 0 0 0), (8, .int .i64 (chkV v t))]) (H' := [some (vaO v), some (tyO t), some nilB])
  · simp only [vaO, tyO, Va.pay, Ty.pay] at hC
    generalize chkV v t = ck at *
    (refine ⟨0, ?_⟩; simp (maxSteps := 2000000) -implicitDefEqProofs [-getElem?_pos, List.getElem?_cons_zero, List.getElem?_cons_succ, go_sem, eqV, plen, loadV, storeV, vaO, tyO, Va.pay, Ty.pay, mkVa, mkTy, hC])
  clear hC
  unfold apV
  cases hok : apOk v t with
  | false =>
    rw [if_neg (by simp)]
    refine Tells.of (o := ⟨.ret, [(6, .sl 3 0 0 0), (7, .int .i64 2)], [some (vaO v), some (tyO t), some nilB, some nilB]⟩) ?_ ⟨rfl, 3, 0, nilB, rfl, rfl, rfl, nilB_rw⟩
    apply Run.seq_out (hne := by simp)
    apply Run.seq (fr' := [(0, .ro c (.pb b) 1), (4, .ptr 0 0 0 0), (5, .ptr 1 0 0 0), (25, .bool true)]) (H' := [some (vaO v), some (tyO t), some nilB])
    · unfold apOk at hok
      by_cases h0 : chkV v t = 0
      · rw [h0] at hok ⊢
        simp only [decide_true, Bool.true_and, Bool.not_eq_false', Bool.and_eq_true, decide_eq_true_eq] at hok
        obtain ⟨hk, h6⟩ := hok
        have h6b : ((t.t : Int) != 6) = true := by simp; omega
        (refine ⟨0, ?_⟩; simp (maxSteps := 2000000) -implicitDefEqProofs [-getElem?_pos, List.getElem?_cons_zero, List.getElem?_cons_succ, go_sem, eqV, plen, loadV, storeV, vaO, tyO, Va.pay, Ty.pay, hk, h6b])
      · have h0b : (chkV v t != 0) = true := by simpa using h0
        generalize chkV v t = ck at *
        (refine ⟨0, ?_⟩; simp (maxSteps := 2000000) -implicitDefEqProofs [-getElem?_pos, List.getElem?_cons_zero, List.getElem?_cons_succ, go_sem, eqV, plen, loadV, storeV, vaO, tyO, Va.pay, Ty.pay, h0b])
    refine ⟨0, ?_⟩
    simp (maxSteps := 2000000) -implicitDefEqProofs [-getElem?_pos, List.getElem?_cons_zero, List.getElem?_cons_succ, go_sem, eqV, plen, loadV, storeV, assignV, emB]
  | true =>
  rw [if_pos rfl]
  unfold apOk at hok
  simp only [Bool.and_eq_true, decide_eq_true_eq, Bool.not_eq_true', Bool.and_eq_false_iff, decide_eq_false_iff_not] at hok
  obtain ⟨h0, h06⟩ := hok
  obtain ⟨fs, ff, fl, fk⟩ := ok_facts h0
  have fb := fun h => ok_bits h0 hvb h
  rw [h0]
  apply Tells.seq (fr' := [(0, .ro c (.pb b) 1), (4, .ptr 0 0 0 0), (5, .ptr 1 0 0 0), (25, .bool false)]) (H' := [some (vaO v), some (tyO t), some nilB])
  · by_cases hk : v.k = 0
    · have h6 : t.t = 6 := by
        rcases h06 with h | h
        · exact absurd hk h
        · omega
      (refine ⟨0, ?_⟩; simp (maxSteps := 2000000) -implicitDefEqProofs [-getElem?_pos, List.getElem?_cons_zero, List.getElem?_cons_succ, go_sem, eqV, plen, loadV, storeV, vaO, tyO, Va.pay, Ty.pay, hk, h6])
    · have hkb : (v.k == 0) = false := by simpa using hk
      (refine ⟨0, ?_⟩; simp (maxSteps := 2000000) -implicitDefEqProofs [-getElem?_pos, List.getElem?_cons_zero, List.getElem?_cons_succ, go_sem, eqV, plen, loadV, storeV, vaO, tyO, Va.pay, Ty.pay, hkb])
  have hS := rsize_ev' ht [some (vaO v), some (tyO t), some nilB]
  apply Tells.seq (fr' := [(0, .ro c (.pb b) 1), (4, .ptr 0 0 0 0), (5, .ptr 1 0 0 0), (9, .int .i64 (rsizeN t.t : Nat))]) (H' := [some (vaO v), some (tyO t), some nilB])
  · simp only [vaO, tyO, Va.pay, Ty.pay] at hS
    generalize rsizeN t.t = n at *
    (refine ⟨0, ?_⟩; simp (maxSteps := 2000000) -implicitDefEqProofs [-getElem?_pos, List.getElem?_cons_zero, List.getElem?_cons_succ, go_sem, eqV, plen, loadV, storeV, vaO, tyO, Va.pay, Ty.pay, hS])
  clear hS
  unfold enV
  rcases fk with kv | kv | kv | kv | kv | kv | kv | kv
  · rw [if_neg (by omega), if_neg (by omega), if_neg (by omega), if_neg (by omega), List.append_nil]
    have hb0 := fun H => bs0 H
    have hA0 := app_lit (H := [some (vaO v), some (tyO t), some nilB]) (m := b) (src := .ro c (.pb b) 1) (srcB (.inl rfl)) (by omega)
    have hw0 : Rw (.pb b) 0 ⟨.pb b, 0, .none, 1, true, false, 0⟩ := ⟨rfl, rfl, rfl, rfl, rfl⟩
    generalize (⟨.pb b, 0, .none, 1, true, false, 0⟩ : AM.Obj) = ob0 at *
    refine Tells.of (o := ⟨.ret, [(6, .sl 3 0 b.length 0), (7, .int .i64 0)], [some (vaO v), some (tyO t), some nilB, some ob0]⟩) ⟨0, ?_⟩ ⟨rfl, 3, 0, ob0, rfl, rfl, rfl, hw0⟩
    simp only [vaO, tyO, Va.pay, Ty.pay] at hA0
    rw [kv] at hA0
    generalize rsizeN t.t = n at *
    simp (maxSteps := 2000000) -implicitDefEqProofs [-getElem?_pos, List.getElem?_cons_zero, List.getElem?_cons_succ, go_sem, eqV, plen, loadV, storeV, vaO, tyO, Va.pay, Ty.pay, kv, hb0, hA0, assignV]
  · rw [if_pos kv]
    obtain ⟨s1, s8⟩ := fs (.inl kv)
    have hrs := rsize_eq (t := t.t) (by omega)
    rw [hrs]
    have hn : sizeN t.t = 1 ∨ sizeN t.t = 2 ∨ sizeN t.t = 4 ∨ sizeN t.t = 8 := by have := rsz t.t; omega
    have wu := (ui_eq v.i).symm
    have hult := ui_lt v.i
    rw [← leB_mod (sizeN t.t) (ui v.i)]
    have hxl : ui v.i % 256 ^ sizeN t.t < 256 ^ sizeN t.t := Nat.mod_lt _ (Nat.pow_pos (by omega))
    obtain ⟨ob1, hw1, hF⟩ := rfx_ev (H := [some (vaO v), some (tyO t), some nilB]) (a := .ro c (.pb b) 1) (b := b) (x := ui v.i % 256 ^ sizeN t.t) (n := sizeN t.t) (N := sizeN t.t) (Byt.ro (.inl rfl) hc) rfl (by omega) s1 s8 hxl
    refine Tells.of (o := ⟨.ret, [(6, .sl 3 0 (b.length + sizeN t.t) 0), (7, .int .i64 0)], [some (vaO v), some (tyO t), some nilB, some ob1]⟩) ?_ ⟨rfl, 3, 0, ob1, by simp [getF, leB_len], rfl, rfl, hw1⟩
    apply Run.seq_out (hne := by simp)
    simp only [vaO, tyO, Va.pay, Ty.pay] at hF
    rw [kv] at hF
    clear hw1 hxl hrs s1 s8 fs fb
    generalize hx : ui v.i = x at *
    generalize sizeN t.t = n at *
    generalize b.length = bl at *
    refine ⟨0, ?_⟩
    rcases hn with rfl | rfl | rfl | rfl
    · have hm := and_mask (x := x) (k := 8) hult (by omega)
      rw [show (256 : Nat) ^ 1 = 2 ^ 8 from rfl] at hF
      generalize x % 2 ^ 8 = z at *
      simp only [Nat.reducePow, Nat.reduceSub, Int.cast_ofNat_Int] at hF
      have hm2 := hm
      simp only [go_sem, Nat.reducePow, Nat.reduceSub, Int.cast_ofNat_Int] at hm2
      simp only [BitVec.toNat_and, Nat.reducePow, Nat.reduceSub, Int.cast_ofNat_Int] at hm
      simp (maxSteps := 2000000) -implicitDefEqProofs [-getElem?_pos, List.getElem?_cons_zero, List.getElem?_cons_succ, go_sem, eqV, plen, loadV, storeV, vaO, tyO, Va.pay, Ty.pay, kv, wu, hm, hm2, hF, assignV, show IntKind.u64.bits = 64 from rfl, show IntKind.i64.wrap 8 = 8 from rfl, show IntKind.u64.wrap 8 = 8 from rfl, show IntKind.u64.wrap 256 = 256 from rfl, show IntKind.u64.wrap 255 = 255 from rfl]
    · have hm := and_mask (x := x) (k := 16) hult (by omega)
      rw [show (256 : Nat) ^ 2 = 2 ^ 16 from rfl] at hF
      generalize x % 2 ^ 16 = z at *
      simp only [Nat.reducePow, Nat.reduceSub, Int.cast_ofNat_Int] at hF
      have hm2 := hm
      simp only [go_sem, Nat.reducePow, Nat.reduceSub, Int.cast_ofNat_Int] at hm2
      simp only [BitVec.toNat_and, Nat.reducePow, Nat.reduceSub, Int.cast_ofNat_Int] at hm
      simp (maxSteps := 2000000) -implicitDefEqProofs [-getElem?_pos, List.getElem?_cons_zero, List.getElem?_cons_succ, go_sem, eqV, plen, loadV, storeV, vaO, tyO, Va.pay, Ty.pay, kv, wu, hm, hm2, hF, assignV, show IntKind.u64.bits = 64 from rfl, show IntKind.i64.wrap 16 = 16 from rfl, show IntKind.u64.wrap 16 = 16 from rfl, show IntKind.u64.wrap 65536 = 65536 from rfl, show IntKind.u64.wrap 65535 = 65535 from rfl]
    · have hm := and_mask (x := x) (k := 32) hult (by omega)
      rw [show (256 : Nat) ^ 4 = 2 ^ 32 from rfl] at hF
      generalize x % 2 ^ 32 = z at *
      simp only [Nat.reducePow, Nat.reduceSub, Int.cast_ofNat_Int] at hF
      have hm2 := hm
      simp only [go_sem, Nat.reducePow, Nat.reduceSub, Int.cast_ofNat_Int] at hm2
      simp only [BitVec.toNat_and, Nat.reducePow, Nat.reduceSub, Int.cast_ofNat_Int] at hm
      simp (maxSteps := 2000000) -implicitDefEqProofs [-getElem?_pos, List.getElem?_cons_zero, List.getElem?_cons_succ, go_sem, eqV, plen, loadV, storeV, vaO, tyO, Va.pay, Ty.pay, kv, wu, hm, hm2, hF, assignV, show IntKind.u64.bits = 64 from rfl, show IntKind.i64.wrap 32 = 32 from rfl, show IntKind.u64.wrap 32 = 32 from rfl, show IntKind.u64.wrap 4294967296 = 4294967296 from rfl, show IntKind.u64.wrap 4294967295 = 4294967295 from rfl]
    · rw [show x % 256 ^ 8 = x from Nat.mod_eq_of_lt (by simpa using hult)] at hF
      simp only [Int.cast_ofNat_Int] at hF
      simp (maxSteps := 2000000) -implicitDefEqProofs [-getElem?_pos, List.getElem?_cons_zero, List.getElem?_cons_succ, go_sem, eqV, plen, loadV, storeV, vaO, tyO, Va.pay, Ty.pay, kv, wu, hF, assignV]
  · rw [if_neg (by omega), if_pos (by omega)]
    obtain ⟨s1, s8⟩ := fs (by omega)
    have hxl := fb (by omega)
    have hrs := rsize_eq (t := t.t) (by omega)
    rw [hrs]
    obtain ⟨ob1, hw1, hF⟩ := rfx_ev (H := [some (vaO v), some (tyO t), some nilB]) (a := .ro c (.pb b) 1) (b := b) (x := v.b) (n := sizeN t.t) (N := sizeN t.t) (Byt.ro (.inl rfl) hc) rfl (by omega) s1 s8 hxl
    refine Tells.of (o := ⟨.ret, [(6, .sl 3 0 (b.length + sizeN t.t) 0), (7, .int .i64 0)], [some (vaO v), some (tyO t), some nilB, some ob1]⟩) ?_ ⟨rfl, 3, 0, ob1, by simp [getF, leB_len], rfl, rfl, hw1⟩
    apply Run.seq_out (hne := by simp)
    simp only [vaO, tyO, Va.pay, Ty.pay] at hF
    rw [kv] at hF
    clear hw1 hxl hrs s1 s8 fs fb
    generalize sizeN t.t = n at *
    generalize b.length = bl at *
    refine ⟨0, ?_⟩
    simp (maxSteps := 2000000) -implicitDefEqProofs [-getElem?_pos, List.getElem?_cons_zero, List.getElem?_cons_succ, go_sem, eqV, plen, loadV, storeV, vaO, tyO, Va.pay, Ty.pay, kv, hF, assignV]
  · rw [if_neg (by omega), if_pos (by omega)]
    obtain ⟨s1, s8⟩ := fs (by omega)
    have hxl := fb (by omega)
    have hrs := rsize_eq (t := t.t) (by omega)
    rw [hrs]
    obtain ⟨ob1, hw1, hF⟩ := rfx_ev (H := [some (vaO v), some (tyO t), some nilB]) (a := .ro c (.pb b) 1) (b := b) (x := v.b) (n := sizeN t.t) (N := sizeN t.t) (Byt.ro (.inl rfl) hc) rfl (by omega) s1 s8 hxl
    refine Tells.of (o := ⟨.ret, [(6, .sl 3 0 (b.length + sizeN t.t) 0), (7, .int .i64 0)], [some (vaO v), some (tyO t), some nilB, some ob1]⟩) ?_ ⟨rfl, 3, 0, ob1, by simp [getF, leB_len], rfl, rfl, hw1⟩
    apply Run.seq_out (hne := by simp)
    simp only [vaO, tyO, Va.pay, Ty.pay] at hF
    rw [kv] at hF
    clear hw1 hxl hrs s1 s8 fs fb
    generalize sizeN t.t = n at *
    generalize b.length = bl at *
    refine ⟨0, ?_⟩
    simp (maxSteps := 2000000) -implicitDefEqProofs [-getElem?_pos, List.getElem?_cons_zero, List.getElem?_cons_succ, go_sem, eqV, plen, loadV, storeV, vaO, tyO, Va.pay, Ty.pay, kv, hF, assignV]
  · rw [if_neg (by omega), if_pos (by omega)]
    obtain ⟨s1, s8⟩ := fs (by omega)
    have hxl := fb (by omega)
    have hrs := rsize_eq (t := t.t) (by omega)
    rw [hrs]
    obtain ⟨ob1, hw1, hF⟩ := rfx_ev (H := [some (vaO v), some (tyO t), some nilB]) (a := .ro c (.pb b) 1) (b := b) (x := v.b) (n := sizeN t.t) (N := sizeN t.t) (Byt.ro (.inl rfl) hc) rfl (by omega) s1 s8 hxl
    refine Tells.of (o := ⟨.ret, [(6, .sl 3 0 (b.length + sizeN t.t) 0), (7, .int .i64 0)], [some (vaO v), some (tyO t), some nilB, some ob1]⟩) ?_ ⟨rfl, 3, 0, ob1, by simp [getF, leB_len], rfl, rfl, hw1⟩
    apply Run.seq_out (hne := by simp)
    simp only [vaO, tyO, Va.pay, Ty.pay] at hF
    rw [kv] at hF
    clear hw1 hxl hrs s1 s8 fs fb
    generalize sizeN t.t = n at *
    generalize b.length = bl at *
    refine ⟨0, ?_⟩
    simp (maxSteps := 2000000) -implicitDefEqProofs [-getElem?_pos, List.getElem?_cons_zero, List.getElem?_cons_succ, go_sem, eqV, plen, loadV, storeV, vaO, tyO, Va.pay, Ty.pay, kv, hF, assignV]
  · rw [if_neg (by omega), if_neg (by omega), if_pos (by omega)]
    obtain ⟨ob1, hw1, hF⟩ := mt_ev (H := [some (vaO v), some (tyO t), some nilB]) (a := .ro c (.pb b) 1) (b := b) (w := v.w) (Byt.ro (.inl rfl) hc) (by omega) ht (ff (by omega))
    refine Tells.of (o := ⟨.ret, [(6, .sl 3 0 (b ++ whB v.w t.t).length 0), (7, .int .i64 0)], [some (vaO v), some (tyO t), some nilB, some ob1]⟩) ?_ ⟨rfl, 3, 0, ob1, rfl, rfl, rfl, hw1⟩
    apply Run.seq_out (hne := by simp)
    simp only [vaO, tyO, Va.pay, Ty.pay, Wh.pay] at hF
    rw [kv] at hF
    generalize (b ++ whB v.w t.t).length = m at *
    generalize rsizeN t.t = n at *
    refine ⟨0, ?_⟩
    simp (maxSteps := 2000000) -implicitDefEqProofs [-getElem?_pos, List.getElem?_cons_zero, List.getElem?_cons_succ, go_sem, eqV, plen, loadV, storeV, vaO, tyO, Va.pay, Ty.pay, kv, mkWh, hF, assignV]
  · rw [if_neg (by omega), if_neg (by omega), if_pos (by omega)]
    obtain ⟨ob1, hw1, hF⟩ := mt_ev (H := [some (vaO v), some (tyO t), some nilB]) (a := .ro c (.pb b) 1) (b := b) (w := v.w) (Byt.ro (.inl rfl) hc) (by omega) ht (ff (by omega))
    refine Tells.of (o := ⟨.ret, [(6, .sl 3 0 (b ++ whB v.w t.t).length 0), (7, .int .i64 0)], [some (vaO v), some (tyO t), some nilB, some ob1]⟩) ?_ ⟨rfl, 3, 0, ob1, rfl, rfl, rfl, hw1⟩
    apply Run.seq_out (hne := by simp)
    simp only [vaO, tyO, Va.pay, Ty.pay, Wh.pay] at hF
    rw [kv] at hF
    generalize (b ++ whB v.w t.t).length = m at *
    generalize rsizeN t.t = n at *
    refine ⟨0, ?_⟩
    simp (maxSteps := 2000000) -implicitDefEqProofs [-getElem?_pos, List.getElem?_cons_zero, List.getElem?_cons_succ, go_sem, eqV, plen, loadV, storeV, vaO, tyO, Va.pay, Ty.pay, kv, mkWh, hF, assignV]
  · rw [if_neg (by omega), if_neg (by omega), if_neg (by omega), if_pos kv]
    obtain ⟨ob1, hw1, hA⟩ := rappendText_ev (H := [some (vaO v), some (tyO t), some nilB]) (a := .ro c (.pb b) 1) (b := b) (s := v.t) (Byt.ro (.inl rfl) hc) (by omega) (by have := fl kv; omega)
    refine Tells.of (o := ⟨.ret, [(6, .sl 3 0 (b ++ aT v.t).length 0), (7, .int .i64 0)], [some (vaO v), some (tyO t), some nilB, some ob1]⟩) ?_ ⟨rfl, 3, 0, ob1, rfl, rfl, rfl, hw1⟩
    apply Run.seq_out (hne := by simp)
    simp only [vaO, tyO, Va.pay, Ty.pay] at hA
    rw [kv] at hA
    generalize (b ++ aT v.t).length = m at *
    generalize rsizeN t.t = n at *
    refine ⟨0, ?_⟩
    simp (maxSteps := 2000000) -implicitDefEqProofs [-getElem?_pos, List.getElem?_cons_zero, List.getElem?_cons_succ, go_sem, eqV, plen, loadV, storeV, vaO, tyO, Va.pay, Ty.pay, kv, hA, assignV]

end

theorem rvappend_ev {H : AM.Heap} {a : AV} {b : List UInt8} {v : Va} {t : Ty} (h : Byt H a b) (hb : b.length ≤ 100000) (ht : t.t < 256) (hvb : v.b < 18446744073709551616) :
    ∃ ob, Rw (.pb (apV b v t).1) 0 ob ∧ evT X 25 [a, .agg v.pay, .agg t.pay] H = some (.tup [.sl H.length 0 (apV b v t).1.length 0, .int .i64 (apV b v t).2], H ++ [some ob]) := by
  obtain ⟨c, p, xl, hp, hc, hx'⟩ := args_byt (C := X) (f := 25) (i := 0) rfl h (args_va (f := 25) (i := 1) (v := v) (args_ty (i := 2) (t := t) (args_nil 3)))
  obtain ⟨code, hcode, hr⟩ := rvappend_code c b v t hc hb ht hvb
  obtain ⟨ob, q1, q2⟩ := Ev1.newB (H := H) (n := (apV b v t).1.length) (l := (apV b v t).1) (rest := [.int .i64 (apV b v t).2]) (evT_below X) Try.func25 hcode hx' (by simp [Va.pay, Ty.pay, idsL, ids, hp.ids]) (by simp [gtag]) rfl rfl rfl (by
    obtain ⟨o, ⟨he, o1, g, ob, q1, q2, q3, q4⟩, hrun⟩ := hr
    exact ⟨o, ⟨he, o1, g, ob, by show some [getF o.fr 6, getF o.fr 7] = _; rw [q1, q2], q3, q4⟩, by rw [par25, coB hp]; exact hrun⟩)
  exact ⟨ob, q1, evT_eq q2⟩

end Go.Proofs.Ytafdnpcamepbmaa

/- Walks: rows of values, of types, as arguments; what they are called with; lives. -/
namespace Go.Proofs.Ytafdnpcamepbmaa
open Go.AM
set_option linter.unusedSimpArgs false
set_option linter.unusedVariables false

theorem va_tags : ∀ l : List Va, idsL (l.map Va.pay) = [] ∧ tagsL (l.map Va.pay) = []
  | [] => ⟨rfl, rfl⟩
  | p :: l => by simp [idsL, tagsL, va_tags l, Va.pay, ids, tags]
theorem ty_tags : ∀ l : List Ty, idsL (l.map Ty.pay) = [] ∧ tagsL (l.map Ty.pay) = []
  | [] => ⟨rfl, rfl⟩
  | p :: l => by simp [idsL, tagsL, ty_tags l, Ty.pay, ids, tags]

theorem emVa0 : emptyRow X 44 = .pr 12 [] := by kernel_rfl

theorem undVs : und X 23 = .slice 44 := by kernel_rfl

theorem emTy0 : emptyRow X 46 = .pr 2 [] := by kernel_rfl

theorem undTs : und X 24 = .slice 46 := by kernel_rfl

/-- a payload of values, of types -/
def PV (p : AV) (l : List Va) : Prop := p = .pr 12 (l.map Va.pay) ∨ (p = .pn ∧ l = [])
def PT (p : AV) (l : List Ty) : Prop := p = .pr 2 (l.map Ty.pay) ∨ (p = .pn ∧ l = [])
theorem PV.ids {p : AV} {l : List Va} (h : PV p l) : AM.ids p = [] := by rcases h with rfl | ⟨rfl, _⟩ <;> simp [AM.ids, va_tags l]
theorem PT.ids {p : AV} {l : List Ty} (h : PT p l) : AM.ids p = [] := by rcases h with rfl | ⟨rfl, _⟩ <;> simp [AM.ids, ty_tags l]
theorem coV {p : AV} {l : List Va} {c t : Nat} {r : List AV} {ts : List TypeId} (h : PV p l) : coerce X (.ro c p t :: r) (23 :: ts) = .ro c (.pr 12 (l.map Va.pay)) t :: coerce X r ts := by
  rcases h with rfl | ⟨rfl, rfl⟩ <;> simp [coerce, undVs, emVa0]

theorem coT {p : AV} {l : List Ty} {c t : Nat} {r : List AV} {ts : List TypeId} (h : PT p l) : coerce X (.ro c p t :: r) (24 :: ts) = .ro c (.pr 2 (l.map Ty.pay)) t :: coerce X r ts := by
  rcases h with rfl | ⟨rfl, rfl⟩ <;> simp [coerce, undTs, emTy0]

theorem coerce_nil : coerce X [] [] = [] := rfl

/-- a row of values that reads so -/
abbrev RoV (H : AM.Heap) (a : AV) (l : List Va) : Prop := RoRow H a 12 (l.map Va.pay)
abbrev RoT (H : AM.Heap) (a : AV) (l : List Ty) : Prop := RoRow H a 2 (l.map Ty.pay)
theorem args_v {f i : Nat} {H : AM.Heap} {a : AV} {l : List Va} {r ys : List AV} {xs : List Lent} (hrw : X.rw f i = false) (h : RoV H a l) (hr : lendArgs X f H (i + 1) r = some (ys, xs)) :
    ∃ c p x, PV p l ∧ (c = 0 → l = []) ∧ lendArgs X f H i (a :: r) = some (.ro c p (i + 1) :: ys, x :: xs) := by
  obtain ⟨c, p, x, hp, hc, h⟩ := args_row hrw h hr
  refine ⟨c, p, x, ?_, fun h => List.map_eq_nil_iff.1 (hc h), h⟩
  rcases hp with h | ⟨h, h2⟩
  · exact .inl h
  · exact .inr ⟨h, List.map_eq_nil_iff.1 h2⟩
theorem args_t {f i : Nat} {H : AM.Heap} {a : AV} {l : List Ty} {r ys : List AV} {xs : List Lent} (hrw : X.rw f i = false) (h : RoT H a l) (hr : lendArgs X f H (i + 1) r = some (ys, xs)) :
    ∃ c p x, PT p l ∧ (c = 0 → l = []) ∧ lendArgs X f H i (a :: r) = some (.ro c p (i + 1) :: ys, x :: xs) := by
  obtain ⟨c, p, x, hp, hc, h⟩ := args_row hrw h hr
  refine ⟨c, p, x, ?_, fun h => List.map_eq_nil_iff.1 (hc h), h⟩
  rcases hp with h | ⟨h, h2⟩
  · exact .inl h
  · exact .inr ⟨h, List.map_eq_nil_iff.1 h2⟩

theorem texts_ev (H : AM.Heap) : evT X 18 [] H = some (.agg tyVS.pay, H) := by
  have h := Ev1.tried (T := fun _ _ _ => none) (C := X) Below.none (n := 100) (f := 18) (args := []) (v := .agg tyVS.pay) (N := []) (by kernel_rfl) H
  have e : shiftV H.length (.agg tyVS.pay) = .agg tyVS.pay := ren_flat _ rfl (fun _ _ => rfl)
  rw [e] at h
  exact evT_eq (by simpa [shiftH] using h)

theorem plain_ev (H : AM.Heap) : evT X 22 [] H = some (.agg tyVS.pay, H) := by
  have h := Ev1.tried (T := fun _ _ _ => none) (C := X) Below.none (n := 100) (f := 22) (args := []) (v := .agg tyVS.pay) (N := []) (by kernel_rfl) H
  have e : shiftV H.length (.agg tyVS.pay) = .agg tyVS.pay := ren_flat _ rfl (fun _ _ => rfl)
  rw [e] at h
  exact evT_eq (by simpa [shiftH] using h)

/-- a value as it may come -/
def Va.okR (v : Va) : Prop := v.b < 18446744073709551616 ∧ -9223372036854775808 ≤ v.i ∧ v.i < 9223372036854775808

theorem txR_take {l : List Va} {i : Nat} {v : Va} (h : l[i]? = some v) : txR (l.take (i + 1)) = txR (l.take i) ++ txV v := take_cat txV h
theorem txR_le (l : List Va) (i : Nat) : (txR (l.take i)).length ≤ (txR l).length := by
  conv => rhs; rw [← List.take_append_drop i l]
  unfold txR
  rw [List.flatMap_append, List.length_append]
  omega

end Go.Proofs.Ytafdnpcamepbmaa

/- Walks: lives; small. -/
namespace Go.Proofs.Ytafdnpcamepbmaa
open Go.AM
set_option linter.unusedSimpArgs false
set_option linter.unusedVariables false

theorem lives_ev (H : AM.Heap) : evT X 5 [] H = some (.bool true, H) :=
  evT_eq (Ev1.triedP (T := fun _ _ _ => none) Below.none (n := 400) (f := 5) (args := []) (v := .bool true) (by kernel_rfl) rfl H)

/-- the texts' lengths -/
def sumV (l : List Va) : Nat := (l.map fun v => v.t.length).sum
def smR (l : List Va) (ts : List Ty) : Bool := decide (l.length ≤ 60) && (decide (ts.length ≤ 60) && decide (sumV (l.take 61) ≤ 3000))

theorem sumV_le {l : List Va} (h : ∀ p ∈ l, p.t.length ≤ 1048576) : ∀ i, sumV (l.take i) ≤ 1048576 * i
  | 0 => by simp [sumV]
  | i + 1 => by
    have := sumV_le h i
    rw [List.take_add_one]
    cases hp : l[i]? with
    | none => simp only [Option.toList_none, List.append_nil]; omega
    | some p =>
      have := h p (List.mem_of_getElem? hp)
      simp only [Option.toList_some, sumV, List.map_append, List.sum_append, List.map_cons, List.map_nil, List.sum_cons, List.sum_nil] at *
      omega

section
variable (d t : Nat) (l : List Va) (e u : Nat) (ts : List Ty)

def smFr (i : Nat) : AM.Frame := [(0, .ro d (.pr 12 (l.map Va.pay)) t), (1, .ro e (.pr 2 (ts.map Ty.pay)) u), (5, .int .i64 (sumV (l.take i) : Nat)), (6, .int .i64 (i : Nat))]

set_option maxRecDepth 100000 in
set_option maxHeartbeats 4000000 in
theorem small_code (hl : ∀ p ∈ l, p.t.length ≤ 1048576) : ∃ code, Try.f6.body = some code ∧
    Tells (Rets fun fr H => getF fr 4 = .bool (smR l ts)) X (evT X) 6 0 code [(0, .ro d (.pr 12 (l.map Va.pay)) t), (1, .ro e (.pr 2 (ts.map Ty.pay)) u)] [] := by
  refine ⟨_, rfl, ?_⟩
  have hLl : (l.map Va.pay).length = l.length := List.length_map _
  have hTl : (ts.map Ty.pay).length = ts.length := List.length_map _
  apply Tells.seq (fr' := [(0, .ro d (.pr 12 (l.map Va.pay)) t), (1, .ro e (.pr 2 (ts.map Ty.pay)) u)]) (H' := [])
  · generalize l.map Va.pay = L at *
    generalize ts.map Ty.pay = T at *
    (refine ⟨0, ?_⟩; simp (maxSteps := 2000000) -implicitDefEqProofs [-getElem?_pos, List.getElem?_cons_zero, List.getElem?_cons_succ, go_sem, eqV, plen, loadV, storeV])
  apply Tells.seq (fr' := [(0, .ro d (.pr 12 (l.map Va.pay)) t), (1, .ro e (.pr 2 (ts.map Ty.pay)) u), (5, .int .i64 0)]) (H' := [])
  · generalize l.map Va.pay = L at *
    generalize ts.map Ty.pay = T at *
    (refine ⟨0, ?_⟩; simp (maxSteps := 2000000) -implicitDefEqProofs [-getElem?_pos, List.getElem?_cons_zero, List.getElem?_cons_succ, go_sem, eqV, plen, loadV, storeV])
  apply Tells.assoc
  apply Tells.seq (fr' := smFr d t l e u ts 0) (H' := [])
  · unfold smFr
    generalize l.map Va.pay = L at *
    generalize ts.map Ty.pay = T at *
    (refine ⟨0, ?_⟩; simp (maxSteps := 2000000) -implicitDefEqProofs [-getElem?_pos, List.getElem?_cons_zero, List.getElem?_cons_succ, go_sem, eqV, plen, loadV, storeV, sumV])
  apply Tells.andThen (P := fun fr H => H = [] ∧ fr = smFr d t l e u ts (min l.length 61) ++ [(14, .bool false)])
  · apply Tells.block
    refine Tells.loopP (fun k fr H => ∃ i, k = 61 - i ∧ i ≤ 61 ∧ i ≤ l.length ∧ H = [] ∧ fr = smFr d t l e u ts i) ?_ (k := 61) ⟨0, rfl, by omega, by omega, rfl, rfl⟩
    rintro k fr H ⟨i, rfl, hi, hil, rfl, rfl⟩
    have hs := sumV_le hl i
    apply Tells.assoc
    by_cases hin : i = l.length
    · refine Tells.of (o := ⟨.exit 0, smFr d t l e u ts i ++ [(14, .bool false)], []⟩) ⟨0, ?_⟩ (.inr ⟨by simp, rfl, rfl, by rw [show min l.length 61 = i by omega]⟩)
      have hni : ¬ (i : Int) < (l.length : Int) := by omega
      unfold smFr
      generalize l.map Va.pay = L at *
      generalize ts.map Ty.pay = T at *
      generalize sumV (l.take i) = n at *
      simp (maxSteps := 2000000) -implicitDefEqProofs [-getElem?_pos, List.getElem?_cons_zero, List.getElem?_cons_succ, go_sem, eqV, plen, loadV, storeV, hLl, hni]
    have hiI : (i : Int) < (l.length : Int) := by omega
    by_cases h61 : i = 61
    · refine Tells.of (o := ⟨.exit 0, smFr d t l e u ts i ++ [(14, .bool false)], []⟩) ⟨0, ?_⟩ (.inr ⟨by simp, rfl, rfl, by rw [show min l.length 61 = i by omega]⟩)
      have hni : ¬ (i : Int) ≤ 60 := by omega
      unfold smFr
      generalize l.map Va.pay = L at *
      generalize ts.map Ty.pay = T at *
      generalize sumV (l.take i) = n at *
      simp (maxSteps := 2000000) -implicitDefEqProofs [-getElem?_pos, List.getElem?_cons_zero, List.getElem?_cons_succ, go_sem, eqV, plen, loadV, storeV, hLl, hiI, hni]
    have h60 : (i : Int) ≤ 60 := by omega
    obtain ⟨p, hp⟩ : ∃ p, l[i]? = some p := ⟨_, List.getElem?_eq_getElem (show i < l.length by omega)⟩
    have hlt : i < l.length := by omega
    have hrow : (l.map Va.pay)[i]? = some p.pay := by rw [List.getElem?_map, hp]; rfl
    have hpl := hl p (List.mem_of_getElem? hp)
    have hsn : sumV (l.take (i + 1)) = sumV (l.take i) + p.t.length := by
      rw [List.take_add_one, hp]; simp [sumV]
    have w1 : IntKind.i64.wrap ((i : Int) + 1) = ((i + 1 : Nat) : Int) := by rw [wrap_i64 (by omega) (by omega)]; omega
    have w2 : IntKind.i64.wrap ((sumV (l.take i) : Nat) + (p.t.length : Int)) = ((sumV (l.take (i + 1)) : Nat) : Int) := by
      rw [hsn, wrap_i64 (by omega) (by omega)]; omega
    refine Tells.of (o := ⟨.normal, smFr d t l e u ts (i + 1), []⟩) ⟨0, ?_⟩ (.inl ⟨rfl, 61 - (i + 1), by omega, i + 1, rfl, by omega, by omega, rfl, rfl⟩)
    unfold smFr
    generalize l.map Va.pay = L at *
    generalize ts.map Ty.pay = T at *
    generalize sumV (l.take (i + 1)) = n1 at *
    generalize sumV (l.take i) = n at *
    simp only [Va.pay] at hrow
    simp (maxSteps := 2000000) -implicitDefEqProofs [-getElem?_pos, List.getElem?_cons_zero, List.getElem?_cons_succ, go_sem, eqV, plen, loadV, storeV, hLl, hiI, h60, hlt, hrow, w1, w2]
  rintro fr H ⟨rfl, rfl⟩
  have hsm : smR l ts = (decide (l.length ≤ 60) && (decide (ts.length ≤ 60) && decide (sumV (l.take (min l.length 61)) ≤ 3000))) := by
    unfold smR
    by_cases h : l.length ≤ 60
    · rw [show min l.length 61 = l.length by omega, List.take_length, List.take_of_length_le (by omega)]
    · simp [h]
  refine Tells.of (o := ⟨.ret, [(4, .bool (smR l ts))], []⟩) ⟨0, ?_⟩ ⟨rfl, rfl⟩
  rw [hsm]
  unfold smFr
  generalize l.map Va.pay = L at *
  generalize ts.map Ty.pay = T at *
  generalize sumV (l.take (min l.length 61)) = n at *
  generalize min l.length 61 = m at *
  by_cases h : l.length ≤ 60
  · have hi : (l.length : Int) ≤ 60 := by omega
    by_cases h2 : ts.length ≤ 60
    · have h2i : (ts.length : Int) ≤ 60 := by omega
      by_cases h3 : n ≤ 3000
      · have h3i : (n : Int) ≤ 3000 := by omega
        simp (maxSteps := 2000000) -implicitDefEqProofs [-getElem?_pos, List.getElem?_cons_zero, List.getElem?_cons_succ, go_sem, eqV, plen, loadV, storeV, hLl, hTl, hi, h, h2, h2i, h3, h3i]
      · have h3i : ¬ (n : Int) ≤ 3000 := by omega
        simp (maxSteps := 2000000) -implicitDefEqProofs [-getElem?_pos, List.getElem?_cons_zero, List.getElem?_cons_succ, go_sem, eqV, plen, loadV, storeV, hLl, hTl, hi, h, h2, h2i, h3, h3i]
    · have h2i : ¬ (ts.length : Int) ≤ 60 := by omega
      simp (maxSteps := 2000000) -implicitDefEqProofs [-getElem?_pos, List.getElem?_cons_zero, List.getElem?_cons_succ, go_sem, eqV, plen, loadV, storeV, hLl, hTl, hi, h, h2, h2i]
  · have hi : ¬ (l.length : Int) ≤ 60 := by omega
    simp (maxSteps := 2000000) -implicitDefEqProofs [-getElem?_pos, List.getElem?_cons_zero, List.getElem?_cons_succ, go_sem, eqV, plen, loadV, storeV, hLl, hi, h]

end

theorem small_ev {H : AM.Heap} {A B : AV} {l : List Va} {ts : List Ty} (hA : RoV H A l) (hB : RoT H B ts) (hl : ∀ p ∈ l, p.t.length ≤ 1048576) :
    evT X 6 [A, B] H = some (.bool (smR l ts), H) := by
  obtain ⟨e, pt, xt, hpt, he, hxt⟩ := args_t (f := 6) (i := 1) rfl hB (args_nil 2)
  obtain ⟨d, pv, xv, hpv, hd, hxv⟩ := args_v (f := 6) (i := 0) rfl hA hxt
  obtain ⟨code, hcode, o, ⟨he, h2⟩, hr⟩ := small_code d 1 l e 2 ts hl
  exact evT_eq (Ev1.toldP (l := [.bool (smR l ts)]) (evT_below X) Try.func6 hcode hxv (by simp [idsL, ids, hpv.ids, hpt.ids]) (by simp [gtag]) rfl rfl rfl ⟨o, ⟨he, by show some [getF o.fr 4] = _; rw [h2]⟩, by rw [par6, coV hpv, coT hpt, coerce_nil]; exact hr⟩)

/-! how long what is written may be -/

theorem sizeN_le (t : Nat) : sizeN t ≤ 8 := by
  unfold sizeN
  repeat' split
  all_goals omega

theorem whB_le (w : Wh) (t : Nat) : (whB w t).length ≤ 13 := by
  have h1 : (clB w).length = 3 := rfl
  have h2 : (usB w).length ≤ 4 := by unfold usB; split <;> simp [leB_len]
  unfold whB spB moB
  repeat' split
  all_goals simp [leB_len]
  all_goals omega

theorem aT_le (s : List UInt8) : (aT s).length ≤ s.length + 9 := by
  unfold aT
  rw [List.length_append, aI_len]
  unfold szI
  repeat' split
  all_goals omega

theorem enV_le (v : Va) (t : Ty) : (enV v t).length ≤ v.t.length + 13 := by
  have h1 := sizeN_le t.t
  have h2 := whB_le v.w t.t
  have h3 := aT_le v.t
  unfold enV
  repeat' split
  all_goals (try rw [leB_len])
  all_goals (try simp only [List.length_nil])
  all_goals omega

theorem restB_sum : ∀ (l : List Va) (ts : List Ty), (restB (zr l ts)).length ≤ sumV l + 13 * l.length
  | [], _ => by simp [restB, sumV, zr]
  | v :: l, [] => by simp [restB, zr]
  | v :: l, t :: ts => by
    have h := restB_sum l ts
    have h2 := enV_le v t
    have h3 : (paE ⟨t, false, v⟩).length ≤ v.t.length + 13 := by unfold paE; split <;> first | omega | (simp only [List.length_nil]; omega)
    have e1 : (restB (zr (v :: l) (t :: ts))).length = (paE ⟨t, false, v⟩).length + (restB (zr l ts)).length := by simp [restB, zr]
    have e2 : sumV (v :: l) = v.t.length + sumV l := by simp [sumV]
    rw [e1, e2, List.length_cons]; omega

theorem txR_sum : ∀ (l : List Va), (txR l).length ≤ sumV l + 9 * l.length
  | [] => by simp [txR, sumV]
  | v :: l => by
    have h := txR_sum l
    have h2 := aT_le v.t
    have h3 : (txV v).length ≤ v.t.length + 9 := by unfold txV; split <;> first | omega | (simp only [List.length_cons, List.length_nil]; omega)
    have e1 : (txR (v :: l)).length = (txV v).length + (txR l).length := by simp [txR]
    have e2 : sumV (v :: l) = v.t.length + sumV l := by simp [sumV]
    rw [e1, e2, List.length_cons]; omega

theorem sm_rest {l : List Va} {ts : List Ty} (h : smR l ts = true) : l.length ≤ 60 ∧ ts.length ≤ 60 ∧ (restB (zr l ts)).length ≤ 4000 ∧ (txR l).length ≤ 4000 := by
  unfold smR at h
  simp only [Bool.and_eq_true, decide_eq_true_eq] at h
  obtain ⟨h1, h2, h3⟩ := h
  rw [List.take_of_length_le (by omega)] at h3
  have := restB_sum l ts
  have := txR_sum l
  exact ⟨h1, h2, by omega, by omega⟩

end Go.Proofs.Ytafdnpcamepbmaa

/- Walks: a binary row written. -/
namespace Go.Proofs.Ytafdnpcamepbmaa
open Go.AM
set_option linter.unusedSimpArgs false
set_option linter.unusedVariables false

section
variable (c : Nat) (b : List UInt8) (d : Nat) (l : List Va) (e : Nat) (ts : List Ty) (K m8 : Nat)

/-- a round's frame -/
def bnFr (i o : Nat) : AM.Frame := [(2, .ro e (.pr 2 (ts.map Ty.pay)) 3), (10, .sl K 0 (b.length + 1) 1), (11, .sl (K + 1) 0 m8 0), (12, .sl o 0 (restB ((zr l ts).take i)).length 0), (47, .ro d (.pr 12 (l.map Va.pay)) 2), (48, .int .i64 (l.length : Nat)), (49, .int .i64 (i : Nat))]
def bnHp (ob0 : AM.Obj) (i o : Nat) (H : AM.Heap) : Prop :=
  ∃ obr, H[K]? = some (some ob0) ∧ H[K + 1]? = some (some (bitO m8 (bitN (nulP (zr l ts)) 2 (zer m8) i))) ∧ K + 2 ≤ o ∧ H[o]? = some (some obr) ∧ Rw (.pb (restB ((zr l ts).take i))) 0 obr

set_option maxRecDepth 100000 in
set_option maxHeartbeats 4000000 in
theorem bn_round (ob0 : AM.Obj) (i o : Nat) (v : Va) (t : Ty) (H : AM.Heap) (hn : l.length ≤ 4096) (hnt : l.length = ts.length) (hm : l.length + 2 ≤ 8 * m8) (hR : (restB (zr l ts)).length ≤ 1000000) (hv : l[i]? = some v) (ht : ts[i]? = some t) (h256 : t.t < 256) (hok : v.okR) (hck : chkV v t = 0) (hH : bnHp l ts K m8 ob0 i o H) :
    ∃ code, ((Try.f11.body).bind (codeAt [1, 1, 1, 1, 1, 1, 1, 0, 1, 0, 0, 1, 1])) = some code ∧
      Tells (Goes fun fr H' => ∃ o', fr = bnFr b d l e ts K m8 (i + 1) o' ∧ bnHp l ts K m8 ob0 (i + 1) o' H') X (evT X) 11 0 code (bnFr b d l e ts K m8 i o ++ [(50, .bool true)]) H := by
  refine ⟨_, rfl, ?_⟩
  obtain ⟨obr, h0, h1, hoK, h3, hr⟩ := hH
  have hlt := at_lt hv
  have hltT := at_lt ht
  have hLl : (l.map Va.pay).length = l.length := List.length_map _
  have hTl : (ts.map Ty.pay).length = ts.length := List.length_map _
  have hrow : (l.map Va.pay)[i]? = some v.pay := by rw [List.getElem?_map, hv]; rfl
  have hrowT : (ts.map Ty.pay)[i]? = some t.pay := by rw [List.getElem?_map, ht]; rfl
  have hiI : (i : Int) < (l.length : Int) := by omega
  have hiT : (i : Int) < (ts.length : Int) := by omega
  have hz := zr_at hv ht
  have hcat := take_cat paE hz
  have hrb : restB ((zr l ts).take (i + 1)) = restB ((zr l ts).take i) ++ paE ⟨t, false, v⟩ := hcat
  have hnul : nulP (zr l ts) i = decide (v.k = 0) := nul_at hz rfl
  have hrl := restB_le (zr l ts) i
  have w1 : IntKind.i64.wrap ((i : Int) + 1) = ((i + 1 : Nat) : Int) := by rw [wrap_i64 (by omega) (by omega)]; omega
  have hnew : ∀ x : Option AM.Obj, (H ++ [x])[H.length]? = some x := fun x => by simp
  have hoL := at_lt h3
  have hKL := at_lt h1
  by_cases hk : v.k = 0
  · have he : paE ⟨t, false, v⟩ = [] := if_pos (.inr hk)
    rw [he, List.append_nil] at hrb
    have hbl := bitN_len (nulP (zr l ts)) 2 (zer m8) i
    have hzl : (zer m8).length = m8 := by simp [zer]
    have hi8 : (i + 2) / 8 < (bitN (nulP (zr l ts)) 2 (zer m8) i).length := by omega
    have hnx : bitN (nulP (zr l ts)) 2 (zer m8) (i + 1) = (bitN (nulP (zr l ts)) 2 (zer m8) i).set ((i + 2) / 8) (orB ((bitN (nulP (zr l ts)) 2 (zer m8) i).getD ((i + 2) / 8) 0) ((i + 2) % 8)) := by
      rw [bitN, hnul, hk]; rfl
    have hfin : bnHp l ts K m8 ob0 (i + 1) o (upd (H ++ [some (vaO v)]) (K + 1) (some (bitO m8 (bitN (nulP (zr l ts)) 2 (zer m8) (i + 1))))) :=
      ⟨obr, at_ne (at_cat h0) (by omega), at_set (at_cat h1), hoK, at_ne (at_cat h3) (by omega), by rw [hrb]; exact hr⟩
    refine Tells.of (o := ⟨.normal, bnFr b d l e ts K m8 (i + 1) o, _⟩) ?_ ⟨rfl, o, rfl, hfin⟩
    unfold bnFr
    rw [hrb, hnx]
    have h1' := at_cat (r := [some (vaO v)]) h1
    generalize bitN (nulP (zr l ts)) 2 (zer m8) i = bs at *
    obtain ⟨y, hy⟩ : ∃ y, bs[(i + 2) / 8]? = some y := ⟨_, List.getElem?_eq_getElem hi8⟩
    rw [show bs.getD ((i + 2) / 8) 0 = y by rw [List.getD, hy]; rfl]
    have hor := or_bit (y := y) (j := (i + 2) % 8) (Nat.mod_lt _ (by omega))
    have hsh := shl1 (j := (i + 2) % 8) (Nat.mod_lt _ (by omega))
    have w2 : IntKind.i64.wrap ((i : Int) + 2) = ((i + 2 : Nat) : Int) := by rw [wrap_i64 (by omega) (by omega)]; omega
    have e1 : Int.tdiv ((i + 2 : Nat) : Int) 8 = (((i + 2) / 8 : Nat) : Int) := by rw [Int.tdiv_eq_ediv_of_nonneg (by omega)]; omega
    have e2 : Int.tmod ((i + 2 : Nat) : Int) 8 = (((i + 2) % 8 : Nat) : Int) := by rw [Int.tmod_eq_emod_of_nonneg (by omega)]; omega
    have e3 : ((i + 2 : Nat) : Int) / 8 = (((i + 2) / 8 : Nat) : Int) := by omega
    have e4 : ((i + 2 : Nat) : Int) % 8 = (((i + 2) % 8 : Nat) : Int) := by omega
    have wq : IntKind.i64.wrap (((i + 2) / 8 : Nat) : Int) = (((i + 2) / 8 : Nat) : Int) := wrap_i64 (by omega) (by omega)
    have hb8 : (i + 2) / 8 < m8 := by omega
    have hb8i : (((i + 2) / 8 : Nat) : Int) < (m8 : Int) := by omega
    have hr0 : ¬ (((i + 2) % 8 : Nat) : Int) < 0 := by omega
    have hr8 : (i + 2) % 8 < 8 := Nat.mod_lt _ (by omega)
    have yo : UInt8.ofNat (orB y ((i + 2) % 8)).toNat = orB y ((i + 2) % 8) := by simp
    have yl : ((orB y ((i + 2) % 8)).toNat : Int) < 256 := by have := (orB y ((i + 2) % 8)).toNat_lt; omega
    generalize (i + 2) / 8 = q at *
    generalize (i + 2) % 8 = r at *
    generalize i + 2 = j at *
    generalize orB y r = z at *
    generalize 2 ^ r = pw at *
    have hor2 := hor
    simp only [go_sem] at hor2
    simp only [BitVec.toNat_or] at hor
    generalize (restB ((zr l ts).take i)).length = nr at *
    generalize l.map Va.pay = L at *
    generalize ts.map Ty.pay = T at *
    simp only [vaO, Va.pay] at hrow h1'
    simp only [hk] at hrow h1'
    refine ⟨0, ?_⟩
    simp (maxSteps := 2000000) -implicitDefEqProofs [-getElem?_pos, List.getElem?_cons_zero, List.getElem?_cons_succ, go_sem, eqV, plen, loadV, storeV, hlt, hiI, hLl, hrow, vaO, Va.pay, hk, retagL, retag, retagP, flatCells, splice, scalars, scalar, hnew, mkVa, w1, w2, h1', bitO, e1, e2, e3, e4, wq, hb8, hb8i, hi8, hy, hsh, hr0, hor, hor2, yo, yl, show IntKind.u8.bits = 8 from rfl]
  · have hkb : (v.k == 0) = false := by simpa using hk
    obtain ⟨ob1, hw1, hA⟩ := vappend_ev (v := v) (t := t) (Byt.whole (at_cat (r := [some (vaO v)]) h3) hr) (by omega) h256 hok.1 hok.2
    have hap : apV (restB ((zr l ts).take i)) v t = (restB ((zr l ts).take (i + 1)), 0) := by
      unfold apV
      rw [if_pos (by unfold apOk; rw [hck]; simp [hk]), hrb]
      unfold paE
      rw [if_neg (by simp [hk])]
    rw [hap] at hA hw1
    have hfin : bnHp l ts K m8 ob0 (i + 1) (H.length + 1) (H ++ [some (vaO v)] ++ [some ob1]) :=
      ⟨ob1, at_cat (at_cat h0), by unfold bitN; rw [hnul]; simp only [hk, decide_false, Bool.false_eq_true, if_false]; exact at_cat (at_cat h1), by omega, by simp, hw1⟩
    refine Tells.of (o := ⟨.normal, bnFr b d l e ts K m8 (i + 1) (H.length + 1), _⟩) ⟨0, ?_⟩ ⟨rfl, _, rfl, hfin⟩
    unfold bnFr
    generalize (restB ((zr l ts).take (i + 1))).length = n1 at *
    generalize (restB ((zr l ts).take i)).length = nr at *
    generalize l.map Va.pay = L at *
    generalize ts.map Ty.pay = T at *
    simp only [vaO, Va.pay, Ty.pay] at hA hrow hrowT
    simp (maxSteps := 2000000) -implicitDefEqProofs [-getElem?_pos, List.getElem?_cons_zero, List.getElem?_cons_succ, go_sem, eqV, plen, loadV, storeV, hlt, hiI, hLl, hrow, hltT, hiT, hTl, hrowT, vaO, Va.pay, hkb, retagL, retag, retagP, flatCells, splice, scalars, scalar, hnew, mkVa, mkTy, hA, w1, assignV]

end

end Go.Proofs.Ytafdnpcamepbmaa

/- Walks: a binary row written: whole. -/
namespace Go.Proofs.Ytafdnpcamepbmaa
open Go.AM
set_option linter.unusedSimpArgs false
set_option linter.unusedVariables false

def bcFr (A L T : AV) (n i : Nat) : AM.Frame := [(0, A), (1, L), (2, T), (23, L), (24, .int .i64 (n : Nat)), (25, .int .i64 (i : Nat))]

theorem zr_bad {l : List Va} {ts : List Ty} {i : Nat} {v : Va} {t : Ty} (h1 : l[i]? = some v) (h2 : ts[i]? = some t) (h : chkV v t ≠ 0) : (zr l ts).any Pm.bad = true :=
  List.any_eq_true.2 ⟨_, List.mem_of_getElem? (zr_at h1 h2), by unfold Pm.bad; simp [h]⟩
theorem zr_fine {l : List Va} {ts : List Ty} (hn : l.length = ts.length) (h : ∀ (i : Nat) (v : Va) (t : Ty), l[i]? = some v → ts[i]? = some t → chkV v t = 0) : ¬ (zr l ts).any Pm.bad = true := by
  intro hx
  obtain ⟨p, hp, hb⟩ := List.any_eq_true.1 hx
  obtain ⟨i, hi⟩ := List.mem_iff_getElem?.1 hp
  have hlt := at_lt hi
  rw [zr_len hn] at hlt
  obtain ⟨v, hv⟩ : ∃ p, l[i]? = some p := ⟨_, List.getElem?_eq_getElem hlt⟩
  obtain ⟨t, ht⟩ : ∃ p, ts[i]? = some p := ⟨_, List.getElem?_eq_getElem (by omega)⟩
  rw [zr_at hv ht] at hi
  obtain rfl := Option.some.inj hi
  unfold Pm.bad at hb
  simp [h i v t hv ht] at hb

section
variable (c : Nat) (b : List UInt8) (d : Nat) (l : List Va) (e : Nat) (ts : List Ty)

set_option maxRecDepth 100000 in
set_option maxHeartbeats 4000000 in
theorem bc_loop (A : AV) (H : AM.Heap) (hl : ∀ v ∈ l, v.okR) (ht : ∀ t ∈ ts, t.t < 256) (hn : l.length ≤ 4096) (hnt : l.length = ts.length) :
    ∃ code, ((Try.f11.body).bind (codeAt [1, 1, 1, 0, 1])) = some code ∧
      Tells (Or2 (fun fr H => (∀ (i : Nat) (v : Va) (t : Ty), l[i]? = some v → ts[i]? = some t → chkV v t = 0) ∧ fr = bcFr A (.ro d (.pr 12 (l.map Va.pay)) 2) (.ro e (.pr 2 (ts.map Ty.pay)) 3) l.length l.length ++ [(26, .bool false)]) (fun out => out.ex = .ret ∧ (zr l ts).any Pm.bad = true ∧ ∃ o, getF out.fr 6 = .sl o 0 0 0 ∧ getF out.fr 7 = .int .i64 2 ∧ out.H[o]? = some (some nilB)))
       X (evT X) 11 0 code (bcFr A (.ro d (.pr 12 (l.map Va.pay)) 2) (.ro e (.pr 2 (ts.map Ty.pay)) 3) l.length 0) H := by
  refine ⟨_, rfl, ?_⟩
  have hLl : (l.map Va.pay).length = l.length := List.length_map _
  have hTl : (ts.map Ty.pay).length = ts.length := List.length_map _
  have hLat : ∀ (i : Nat) (v : Va), l[i]? = some v → (l.map Va.pay)[i]? = some v.pay := fun i p h => (by rw [List.getElem?_map, h]; rfl)
  have hTat : ∀ (i : Nat) (v : Ty), ts[i]? = some v → (ts.map Ty.pay)[i]? = some v.pay := fun i p h => (by rw [List.getElem?_map, h]; rfl)
  generalize l.map Va.pay = L at *
  generalize ts.map Ty.pay = T at *
  apply Tells.blockOr
  refine Tells.loopP (fun k fr H => ∃ i, k = l.length - i ∧ i ≤ l.length ∧ fr = bcFr A (.ro d (.pr 12 L) 2) (.ro e (.pr 2 T) 3) l.length i ∧ ∀ (j : Nat) (v : Va) (t : Ty), j < i → l[j]? = some v → ts[j]? = some t → chkV v t = 0) ?_ (k := l.length) ⟨0, rfl, by omega, rfl, by omega⟩
  rintro k fr H ⟨i, rfl, hi, rfl, hall⟩
  by_cases hin : i = l.length
  · subst hin
    refine Tells.of (o := ⟨.exit 0, bcFr A (.ro d (.pr 12 L) 2) (.ro e (.pr 2 T) 3) l.length l.length ++ [(26, .bool false)], H⟩) ⟨0, ?_⟩ (.inr ⟨by simp, .inl ⟨rfl, fun i v t hv ht => hall i v t (at_lt hv) hv ht, rfl⟩⟩)
    simp (maxSteps := 2000000) -implicitDefEqProofs [-getElem?_pos, List.getElem?_cons_zero, List.getElem?_cons_succ, go_sem, eqV, plen, loadV, storeV, bcFr]
  have hlt : i < l.length := by omega
  have hiI : (i : Int) < (l.length : Int) := by omega
  have hltT : i < ts.length := by omega
  have hiT : (i : Int) < (ts.length : Int) := by omega
  obtain ⟨v, hv⟩ : ∃ p, l[i]? = some p := ⟨_, List.getElem?_eq_getElem hlt⟩
  obtain ⟨t, htt⟩ : ∃ p, ts[i]? = some p := ⟨_, List.getElem?_eq_getElem hltT⟩
  have hrow := hLat i v hv
  have hrowT := hTat i t htt
  have hm := List.mem_of_getElem? hv
  have hmt := List.mem_of_getElem? htt
  have hnew : ∀ x : Option AM.Obj, (H ++ [x])[H.length]? = some x := fun x => by simp
  have w1 : IntKind.i64.wrap ((i : Int) + 1) = ((i + 1 : Nat) : Int) := by rw [wrap_i64 (by omega) (by omega)]; omega
  have hC := check_ev (v := v) (t := t) (ht t hmt) (hl v hm).1 (hl v hm).2 (H ++ [some (vaO v)])
  simp only [vaO, Va.pay, Ty.pay] at hC hrow hrowT
  by_cases h0 : chkV v t = 0
  · rw [h0] at hC
    refine Tells.of (o := ⟨.normal, bcFr A (.ro d (.pr 12 L) 2) (.ro e (.pr 2 T) 3) l.length (i + 1), H ++ [some (vaO v)]⟩) ⟨0, ?_⟩ (.inl ⟨rfl, l.length - (i + 1), by omega, i + 1, rfl, by omega, rfl, fun j v' t' hj hv' ht' => ?_⟩)
    · simp (maxSteps := 2000000) -implicitDefEqProofs [-getElem?_pos, List.getElem?_cons_zero, List.getElem?_cons_succ, go_sem, eqV, plen, loadV, storeV, bcFr, hiI, hlt, hLl, hrow, hiT, hltT, hTl, hrowT, vaO, Va.pay, Ty.pay, retagL, retag, retagP, flatCells, splice, scalars, scalar, hnew, mkVa, mkTy, hC, w1]
    · by_cases hji : j = i
      · subst hji
        rw [hv] at hv'; obtain rfl := Option.some.inj hv'
        rw [htt] at ht'; obtain rfl := Option.some.inj ht'
        exact h0
      · exact hall j v' t' (by omega) hv' ht'
  · have h0b : (chkV v t != 0) = true := by simpa using h0
    refine Tells.of (o := ⟨.ret, [(6, .sl (H.length + 1) 0 0 0), (7, .int .i64 2)], H ++ [some (vaO v)] ++ [some nilB]⟩) ⟨0, ?_⟩ (.inr ⟨by simp, .inr ⟨rfl, rfl, zr_bad hv htt h0, H.length + 1, rfl, rfl, by simp⟩⟩)
    generalize chkV v t = ck at *
    simp (maxSteps := 2000000) -implicitDefEqProofs [-getElem?_pos, List.getElem?_cons_zero, List.getElem?_cons_succ, go_sem, eqV, plen, loadV, storeV, bcFr, hiI, hlt, hLl, hrow, hiT, hltT, hTl, hrowT, vaO, Va.pay, Ty.pay, retagL, retag, retagP, flatCells, splice, scalars, scalar, hnew, mkVa, mkTy, hC, h0b, assignV, emB]

set_option maxRecDepth 100000 in
set_option maxHeartbeats 4000000 in
theorem bapp_code (hc : c = 0 → b = []) (hb : b.length ≤ 2000000) (hl : ∀ v ∈ l, v.okR) (ht : ∀ t ∈ ts, t.t < 256) (hR : (restB (zr l ts)).length ≤ 1000000) (hlb : l.length ≤ 100000000) : ∃ code, Try.f11.body = some code ∧
    Tells (Rets fun fr H => ∃ o g ob, getF fr 6 = .sl o 0 (bnApp b l ts).1.length g ∧ getF fr 7 = .int .i64 (bnApp b l ts).2 ∧ H[o]? = some (some ob) ∧ Rw (.pb (bnApp b l ts).1) g ob) X (evT X) 11 0 code [(0, .ro c (.pb b) 1), (1, .ro d (.pr 12 (l.map Va.pay)) 2), (2, .ro e (.pr 2 (ts.map Ty.pay)) 3)] [] := by
  refine ⟨_, rfl, ?_⟩
  obtain ⟨L, hLm⟩ : ∃ L, l.map Va.pay = L := ⟨_, rfl⟩
  obtain ⟨T, hTm⟩ : ∃ L, ts.map Ty.pay = L := ⟨_, rfl⟩
  have hLl : L.length = l.length := by rw [← hLm]; exact List.length_map _
  have hTl : T.length = ts.length := by rw [← hTm]; exact List.length_map _
  rw [hLm, hTm]
  apply Tells.seq (fr' := [(0, .ro c (.pb b) 1), (1, .ro d (.pr 12 L) 2), (2, .ro e (.pr 2 T) 3)]) (H' := [some nilB])
  · (refine ⟨0, ?_⟩; simp (maxSteps := 2000000) -implicitDefEqProofs [-getElem?_pos, List.getElem?_cons_zero, List.getElem?_cons_succ, go_sem, eqV, plen, loadV, storeV, assignV, emB])
  by_cases h5 : 4096 < ts.length
  · rw [show bnApp b l ts = ([], 3) from if_pos h5]
    refine Tells.of (o := ⟨.ret, [(6, .sl 1 0 0 0), (7, .int .i64 3)], [some nilB, some nilB]⟩) ?_ ⟨rfl, 1, 0, nilB, rfl, rfl, rfl, nilB_rw⟩
    apply Run.seq_out (hne := by simp)
    have h5i : (4096 : Int) < (ts.length : Int) := by omega
    refine ⟨0, ?_⟩
    simp (maxSteps := 2000000) -implicitDefEqProofs [-getElem?_pos, List.getElem?_cons_zero, List.getElem?_cons_succ, go_sem, eqV, plen, loadV, storeV, assignV, emB, h5i, hTl]
  have h5i : ¬ (4096 : Int) < (ts.length : Int) := by omega
  apply Tells.seq (fr' := [(0, .ro c (.pb b) 1), (1, .ro d (.pr 12 L) 2), (2, .ro e (.pr 2 T) 3), (17, .bool false)]) (H' := [some nilB])
  · (refine ⟨0, ?_⟩; simp (maxSteps := 2000000) -implicitDefEqProofs [-getElem?_pos, List.getElem?_cons_zero, List.getElem?_cons_succ, go_sem, eqV, plen, loadV, storeV, assignV, emB, h5i, hTl])
  by_cases hnt : l.length ≠ ts.length
  · rw [show bnApp b l ts = ([], 2) by unfold bnApp; rw [if_neg h5, if_pos hnt]]
    have hnb : ((l.length : Int) != (ts.length : Int)) = true := by simp; omega
    refine Tells.of (o := ⟨.ret, [(6, .sl 1 0 0 0), (7, .int .i64 2)], [some nilB, some nilB]⟩) ?_ ⟨rfl, 1, 0, nilB, rfl, rfl, rfl, nilB_rw⟩
    apply Run.seq_out (hne := by simp)
    refine ⟨0, ?_⟩
    simp (maxSteps := 2000000) -implicitDefEqProofs [-getElem?_pos, List.getElem?_cons_zero, List.getElem?_cons_succ, go_sem, eqV, plen, loadV, storeV, assignV, emB, hLl, hTl, hnb]
  have hnt : l.length = ts.length := by omega
  have hnb : ((l.length : Int) != (ts.length : Int)) = false := by rw [hnt]; simp
  apply Tells.seq (fr' := [(0, .ro c (.pb b) 1), (1, .ro d (.pr 12 L) 2), (2, .ro e (.pr 2 T) 3), (22, .bool false)]) (H' := [some nilB])
  · (refine ⟨0, ?_⟩; simp (maxSteps := 2000000) -implicitDefEqProofs [-getElem?_pos, List.getElem?_cons_zero, List.getElem?_cons_succ, go_sem, eqV, plen, loadV, storeV, hLl, hTl, hnb])
  apply Tells.assoc
  apply Tells.seq (fr' := bcFr (.ro c (.pb b) 1) (.ro d (.pr 12 L) 2) (.ro e (.pr 2 T) 3) l.length 0) (H' := [some nilB])
  · (refine ⟨0, ?_⟩; simp (maxSteps := 2000000) -implicitDefEqProofs [-getElem?_pos, List.getElem?_cons_zero, List.getElem?_cons_succ, go_sem, eqV, plen, loadV, storeV, bcFr, hLl])
  generalize hHH : ([some nilB] : AM.Heap) = HH
  rw [← hLm, ← hTm]
  apply Tells.or (P := fun fr H => (∀ (i : Nat) (v : Va) (t : Ty), l[i]? = some v → ts[i]? = some t → chkV v t = 0) ∧ fr = bcFr (.ro c (.pb b) 1) (.ro d (.pr 12 (l.map Va.pay)) 2) (.ro e (.pr 2 (ts.map Ty.pay)) 3) l.length l.length ++ [(26, .bool false)])
  · refine (piece (bc_loop d l e ts (.ro c (.pb b) 1) HH hl ht (by omega) hnt) _ rfl).mono ?_
    rintro out (h | ⟨h1, h2, hbd, o, q6, q7, q8⟩)
    · exact .inl h
    · have hbd : bnApp b l ts = ([], 2) := by unfold bnApp; rw [if_neg h5, if_neg (by omega), if_pos hbd]
      exact .inr ⟨h1, h2, o, 0, nilB, by rw [hbd]; exact q6, by rw [hbd]; exact q7, q8, by rw [hbd]; exact nilB_rw⟩
  rintro fr H ⟨hok, rfl⟩
  have hpa : bnApp b l ts = (b ++ bnB (zr l ts), 0) := by
    unfold bnApp
    rw [if_neg h5, if_neg (by omega), if_neg (zr_fine hnt hok)]
  have hzl := zr_len hnt
  rw [hpa, hLm, hTm]
  obtain ⟨ob0, hw0, hA0⟩ := clone_ev (H := H) (a := .ro c (.pb b) 1) (b := b) (Byt.ro (.inl rfl) hc) (by omega)
  have hK : (H ++ [some ob0])[H.length]? = some (some ob0) := by simp
  obtain ⟨ob1, hw1, hA1⟩ := app_b (H := H ++ [some ob0]) (o := H.length) (m := [0]) (src := .ro 1 (.pb [0]) 0) hK hw0 (.inl rfl) (by simp; omega)
  have hup : upd (H ++ [some ob0]) H.length (some ob1) = H ++ [some ob1] := by unfold upd; simp
  rw [hup] at hA1
  have hbs := fun H => bsK H 0 0 rfl
  apply Tells.seq (fr' := [(1, .ro d (.pr 12 L) 2), (2, .ro e (.pr 2 T) 3), (10, .sl H.length 0 (b.length + 1) 1)]) (H' := H ++ [some ob1])
  · simp only [List.length_cons, List.length_nil, Nat.zero_add] at hA1
    (refine ⟨0, ?_⟩; simp (maxSteps := 2000000) -implicitDefEqProofs [-getElem?_pos, List.getElem?_cons_zero, List.getElem?_cons_succ, go_sem, eqV, plen, loadV, storeV, bcFr, hA0, hbs, hA1, assignV])
  have hM := mkB (n := (l.length + 9) / 8) (by omega) (H ++ [some ob1])
  have w7 : IntKind.i64.wrap ((l.length : Int) + 9) = ((l.length + 9 : Nat) : Int) := by rw [wrap_i64 (by omega) (by omega)]; omega
  have w8 : IntKind.i64.wrap (((l.length + 9 : Nat) : Int) / 8) = (((l.length + 9) / 8 : Nat) : Int) := by
    rw [wrap_i64 (by omega) (by omega)]; omega
  simp only [List.length_append, List.length_cons, List.length_nil, Nat.zero_add] at hM
  generalize hm8 : (l.length + 9) / 8 = m8 at *
  generalize hn7 : l.length + 9 = n7 at *
  apply Tells.seq (fr' := [(1, .ro d (.pr 12 L) 2), (2, .ro e (.pr 2 T) 3), (10, .sl H.length 0 (b.length + 1) 1), (11, .sl (H.length + 1) 0 m8 0)]) (H' := H ++ [some ob1] ++ [some (bitO m8 (zer m8))])
  · (refine ⟨0, ?_⟩; simp (maxSteps := 2000000) -implicitDefEqProofs [-getElem?_pos, List.getElem?_cons_zero, List.getElem?_cons_succ, go_sem, eqV, plen, loadV, storeV, assignV, hLl, w7, w8, hM, bitO, zer])
  apply Tells.seq (fr' := [(1, .ro d (.pr 12 L) 2), (2, .ro e (.pr 2 T) 3), (10, .sl H.length 0 (b.length + 1) 1), (11, .sl (H.length + 1) 0 m8 0), (12, .sl (H.length + 2) 0 0 0)]) (H' := H ++ [some ob1] ++ [some (bitO m8 (zer m8))] ++ [some nilB])
  · (refine ⟨0, ?_⟩; simp (maxSteps := 2000000) -implicitDefEqProofs [-getElem?_pos, List.getElem?_cons_zero, List.getElem?_cons_succ, go_sem, eqV, plen, loadV, storeV, assignV, emB])
  apply Tells.assoc
  apply Tells.seq (fr' := bnFr b d l e ts H.length m8 0 (H.length + 2)) (H' := H ++ [some ob1] ++ [some (bitO m8 (zer m8))] ++ [some nilB])
  · have r0 : (restB ((zr l ts).take 0)).length = 0 := rfl
    unfold bnFr
    rw [r0, hLm, hTm]
    (refine ⟨0, ?_⟩; simp (maxSteps := 2000000) -implicitDefEqProofs [-getElem?_pos, List.getElem?_cons_zero, List.getElem?_cons_succ, go_sem, eqV, plen, loadV, storeV, hLl])
  generalize hK0 : H.length = K at *
  have hH0 : bnHp l ts K m8 ob1 0 (K + 2) (H ++ [some ob1] ++ [some (bitO m8 (zer m8))] ++ [some nilB]) :=
    ⟨nilB, by subst hK0; exact at_cat (at_cat (by simp)), by subst hK0; exact at_cat (by rw [show H.length + 1 = (H ++ [some ob1]).length by simp]; simp [bitN]), by omega, by subst hK0; rw [show H.length + 2 = (H ++ [some ob1] ++ [some (bitO m8 (zer m8))]).length by simp]; simp, nilB_rw⟩
  generalize H ++ [some ob1] ++ [some (bitO m8 (zer m8))] ++ [some nilB] = H0 at *
  apply Tells.blockThen (P := fun fr H => ∃ o, fr = bnFr b d l e ts K m8 l.length o ++ [(50, .bool false)] ∧ bnHp l ts K m8 ob1 l.length o H)
  · refine Tells.loopP (fun k fr H => ∃ i o, k = l.length - i ∧ i ≤ l.length ∧ fr = bnFr b d l e ts K m8 i o ∧ bnHp l ts K m8 ob1 i o H) ?_ (k := l.length) ⟨0, K + 2, rfl, by omega, rfl, hH0⟩
    rintro k fr H ⟨i, o, rfl, hi, rfl, hH⟩
    by_cases hin : i = l.length
    · subst hin
      refine Tells.of (o := ⟨.exit 2, bnFr b d l e ts K m8 l.length o ++ [(50, .bool false)], H⟩) ⟨0, ?_⟩ (.inr ⟨by simp, .inl ⟨rfl, o, rfl, hH⟩⟩)
      unfold bnFr
      rw [hLm, hTm]
      generalize (restB ((zr l ts).take l.length)).length = nr at *
      simp (maxSteps := 2000000) -implicitDefEqProofs [-getElem?_pos, List.getElem?_cons_zero, List.getElem?_cons_succ, go_sem, eqV, plen, loadV, storeV]
    have hiI : (i : Int) < (l.length : Int) := by omega
    obtain ⟨v, hv⟩ : ∃ p, l[i]? = some p := ⟨_, List.getElem?_eq_getElem (show i < l.length by omega)⟩
    obtain ⟨t, htt⟩ : ∃ p, ts[i]? = some p := ⟨_, List.getElem?_eq_getElem (show i < ts.length by omega)⟩
    apply Tells.seq (fr' := bnFr b d l e ts K m8 i o ++ [(50, .bool true)]) (H' := H)
    · unfold bnFr
      rw [hLm, hTm]
      generalize (restB ((zr l ts).take i)).length = nr at *
      (refine ⟨0, ?_⟩; simp (maxSteps := 2000000) -implicitDefEqProofs [-getElem?_pos, List.getElem?_cons_zero, List.getElem?_cons_succ, go_sem, eqV, plen, loadV, storeV, hiI])
    apply Tells.seq (fr' := bnFr b d l e ts K m8 i o ++ [(50, .bool true)]) (H' := H)
    · refine condT (by simp [evalO, getF, bnFr]) ?_
      exact ⟨0, rfl⟩
    refine (piece (bn_round b d l e ts K m8 ob1 i o v t H (by omega) hnt (by omega) hR hv htt (ht t (List.mem_of_getElem? htt)) (hl v (List.mem_of_getElem? hv)) (hok i v t hv htt) hH) _ rfl).mono ?_
    rintro q ⟨h1, o', h2, h3⟩
    exact .inl ⟨h1, l.length - (i + 1), by omega, i + 1, o', rfl, by omega, h2, h3⟩
  rintro fr H' ⟨o, rfl, obr, q0, q1, hoK, q3, hr⟩
  have hzt : (zr l ts).take l.length = zr l ts := List.take_of_length_le (by omega)
  rw [hzt] at hr
  have hbl : (bitN (nulP (zr l ts)) 2 (zer m8) l.length).length = m8 := by rw [bitN_len]; simp [zer]
  have hbB : bnB (zr l ts) = 0 :: (bitN (nulP (zr l ts)) 2 (zer m8) l.length ++ restB (zr l ts)) := by unfold bnB bitsR; rw [hzl, hn7, hm8]
  rw [hbB]
  generalize bitN (nulP (zr l ts)) 2 (zer m8) l.length = bs at *
  have hwb : Rw (.pb bs) 0 (bitO m8 bs) := ⟨rfl, rfl, rfl, rfl, rfl⟩
  obtain ⟨ob2, hw2, hA2⟩ := app_b (H := H') (o := K) (m := bs) (src := .sl (K + 1) 0 m8 0) q0 hw1 (.inl (srcW q1 hwb hbl.symm)) (by simp; omega)
  rw [show (b ++ [(0 : UInt8)]).length = b.length + 1 by simp, hbl] at hA2
  have q3' : (upd H' K (some ob2))[o]? = some (some obr) := at_ne q3 (by omega)
  have q0' : (upd H' K (some ob2))[K]? = some (some ob2) := at_set q0
  obtain ⟨ob3, hw3, hA3⟩ := app_b (H := upd H' K (some ob2)) (o := K) (m := restB (zr l ts)) (src := .sl o 0 (restB (zr l ts)).length 0) q0' hw2 (.inl (srcW q3' hr rfl)) (by simp; omega)
  rw [show (b ++ [(0 : UInt8)] ++ bs).length = b.length + 1 + m8 by simp [hbl]; omega] at hA3
  refine Tells.of (o := ⟨.ret, [(6, .sl K 0 (b.length + 1 + m8 + (restB (zr l ts)).length) 3), (7, .int .i64 0)], upd (upd H' K (some ob2)) K (some ob3)⟩) ⟨0, ?_⟩ ⟨rfl, K, 3, ob3, ?_, rfl, at_set q0', ?_⟩
  · unfold bnFr
    rw [hLm, hTm, hzt]
    generalize (restB (zr l ts)).length = n2 at *
    simp only [upd, List.set_set, Nat.reduceAdd] at hA2 hA3
    simp (maxSteps := 2000000) -implicitDefEqProofs [-getElem?_pos, List.getElem?_cons_zero, List.getElem?_cons_succ, go_sem, eqV, plen, loadV, storeV, hA2, hA3, assignV]
  · simp only [getF, List.length_append, List.length_cons]; simp; omega
  · rw [show b ++ 0 :: (bs ++ restB (zr l ts)) = b ++ [0] ++ bs ++ restB (zr l ts) by simp]; exact hw3

end

theorem bapp_ev {H : AM.Heap} {a A B : AV} {b : List UInt8} {l : List Va} {ts : List Ty} (h : Byt H a b) (hA : RoV H A l) (hB : RoT H B ts) (hb : b.length ≤ 2000000) (hl : ∀ p ∈ l, p.okR) (ht : ∀ t ∈ ts, t.t < 256) (hR : (restB (zr l ts)).length ≤ 1000000) (hlb : l.length ≤ 100000000) :
    ∃ ob, Rw (.pb (bnApp b l ts).1) 0 ob ∧ evT X 11 [a, A, B] H = some (.tup [.sl H.length 0 (bnApp b l ts).1.length 0, .int .i64 (bnApp b l ts).2], H ++ [some ob]) := by
  obtain ⟨e, pt, xt, hpt, he, hxt⟩ := args_t (f := 11) (i := 2) rfl hB (args_nil 3)
  obtain ⟨d, pv, xv, hpv, hd, hxv⟩ := args_v (f := 11) (i := 1) rfl hA hxt
  obtain ⟨c, p, xl, hp, hc, hx'⟩ := args_byt (C := X) (f := 11) (i := 0) rfl h hxv
  obtain ⟨code, hcode, hr⟩ := bapp_code c b d l e ts hc hb hl ht hR hlb
  obtain ⟨ob, q1, q2⟩ := Ev1.newB (H := H) (n := (bnApp b l ts).1.length) (l := (bnApp b l ts).1) (rest := [.int .i64 (bnApp b l ts).2]) (evT_below X) Try.func11 hcode hx' (by simp [idsL, ids, hp.ids, hpv.ids, hpt.ids]) (by simp [gtag]) rfl rfl rfl (by
    obtain ⟨o, ⟨he, o1, g, ob, q1, q2, q3, q4⟩, hrun⟩ := hr
    exact ⟨o, ⟨he, o1, g, ob, by show some [getF o.fr 6, getF o.fr 7] = _; rw [q1, q2], q3, q4⟩, by rw [par11, coB hp, coV hpv, coT hpt, coerce_nil]; exact hrun⟩)
  exact ⟨ob, q1, evT_eq q2⟩

end Go.Proofs.Ytafdnpcamepbmaa
