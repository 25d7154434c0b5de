/- VA to Z2: texts of this claim, one behind the other; what each shows stands at its head. -/
import Derived.Test.YtafdnpcamepbmaaAm4
import Derived.Test.YtafdnpcamepbmaaMg4
/- Walks: the document's moment, appended: its end. -/
namespace Go.Proofs.Ytafdnpcamepbmaa
open Go.AM
set_option linter.unusedSimpArgs false
set_option linter.unusedVariables false

theorem rfx_code (c : Nat) (b : List UInt8) (x n : Nat) (hc : c = 0 → b = []) (hb : b.length ≤ 1000000) (h1 : 1 ≤ n) (h8 : n ≤ 8) (hx : x < 256 ^ n) : ∃ code, Try.f40.body = some code ∧
    Tells (Rets fun fr H => ∃ o g ob, getF fr 6 = .sl o 0 (b.length + n) g ∧ H[o]? = some (some ob) ∧ Rw (.pb (b ++ leB n x)) g ob) X (evT X) 40 0 code [(0, .ro c (.pb b) 1), (1, .int .u64 (x : Nat)), (2, .int .i64 (n : Nat))] [] := by
  refine ⟨_, rfl, ?_⟩
  obtain ⟨ob1, hw1, hA⟩ := raf_ev (H := [some nilB]) (a := .ro c (.pb b) 1) (b := b) (x := x) (n := n) (Byt.ro (.inl rfl) hc) (by omega) h1 h8 hx
  refine Tells.of (o := ⟨.ret, [(6, .sl 1 0 (b.length + n) 0)], [some nilB, some ob1]⟩) ⟨0, ?_⟩ ⟨rfl, 1, 0, ob1, rfl, rfl, hw1⟩
  simp (maxSteps := 2000000) -implicitDefEqProofs [-getElem?_pos, List.getElem?_cons_zero, List.getElem?_cons_succ, go_sem, eqV, plen, loadV, storeV, assignV, emB, hA]

theorem rfx_ev {H : AM.Heap} {a : AV} {b : List UInt8} {x n : Nat} {N : Int} (h : Byt H a b) (hN : N = (n : Nat)) (hb : b.length ≤ 1000000) (h1 : 1 ≤ n) (h8 : n ≤ 8) (hx : x < 256 ^ n) :
    ∃ ob, Rw (.pb (b ++ leB n x)) 0 ob ∧ evT X 40 [a, .int .u64 (x : Nat), .int .i64 N] H = some (.sl H.length 0 (b.length + n) 0, H ++ [some ob]) := by
  subst hN
  obtain ⟨c, p, xl, hp, hc, hx'⟩ := args_byt (C := X) (f := 40) (i := 0) rfl h (args_flat (i := 1) (a := .int .u64 (x : Nat)) rfl rfl (args_flat (i := 2) (a := .int .i64 (n : Nat)) rfl rfl (args_nil 3)))
  obtain ⟨code, hcode, hr⟩ := rfx_code c b x n hc hb h1 h8 hx
  obtain ⟨ob, q1, q2⟩ := Ev1.newB (H := H) (n := b.length + n) (l := b ++ leB n x) (rest := []) (evT_below X) Try.func40 hcode hx' (by simp [idsL, ids, hp.ids]) (by simp [gtag]) rfl rfl rfl (by
    obtain ⟨o, ⟨he, o1, g, ob, q1, q3, q4⟩, hrun⟩ := hr
    exact ⟨o, ⟨he, o1, g, ob, by show some [getF o.fr 6] = _; rw [q1], q3, q4⟩, by rw [par40, coB hp]; exact hrun⟩)
  exact ⟨ob, q1, evT_eq q2⟩

noncomputable def mtE : Option Code := ((((Try.f41.body).bind cR).bind cR).bind cR)

theorem Byt.whole' {H : AM.Heap} {o g : Nat} {ob : AM.Obj} {l : List UInt8} (ho : H[o]? = some (some ob)) (h : Rw (.pb l) g ob) : Byt H (.sl o 0 l.length g) l := Byt.whole ho h

section
variable (c : Nat) (b own : List UInt8) (w : Wh)

set_option maxRecDepth 100000 in
set_option maxHeartbeats 4000000 in
theorem mt_end (H : AM.Heap) (o g : Nat) (ob : AM.Obj) (fr : AM.Frame) (hc : c = 0 → b = []) (hb : b.length ≤ 100000) (how : own.length ≤ 100) (h0 : H[0]? = some (some (whO w))) (ho : H[o]? = some (some ob)) (hw : Rw (.pb own) g ob) (hu : 0 ≤ w.us ∧ w.us < 4294967296) : ∃ code, mtE = some code ∧
    Tells (Rets fun fr H => ∃ o g ob, getF fr 6 = .sl o 0 (b ++ (UInt8.ofNat (own ++ usB w).length :: (own ++ usB w))).length g ∧ H[o]? = some (some ob) ∧ Rw (.pb (b ++ (UInt8.ofNat (own ++ usB w).length :: (own ++ usB w)))) g ob)
      X (evT X) 41 0 code ([(0, .ro c (.pb b) 1), (4, .ptr 0 0 0 0), (7, .sl o 0 own.length g)] ++ fr) H := by
  refine ⟨_, rfl, ?_⟩
  have fin0 : ∀ (H : AM.Heap) (o g : Nat) (ob : AM.Obj) (own : List UInt8) (fr0 : AM.Frame), getF fr0 0 = .ro c (.pb b) 1 → getF fr0 7 = .sl o 0 own.length g → own.length ≤ 120 → H[o]? = some (some ob) → Rw (.pb own) g ob → ∀ code, ((mtE.bind cR)) = some code →
      Tells (Rets fun fr H => ∃ o g ob, getF fr 6 = .sl o 0 (b ++ (UInt8.ofNat own.length :: own)).length g ∧ H[o]? = some (some ob) ∧ Rw (.pb (b ++ (UInt8.ofNat own.length :: own))) g ob)
      X (evT X) 41 0 code fr0 H := by
    intro H o g ob own fr0 hf0 hf7 how ho hw code hcode
    have gen : ∃ code, (mtE.bind cR) = some code ∧ Tells (Rets fun fr H => ∃ o g ob, getF fr 6 = .sl o 0 (b ++ (UInt8.ofNat own.length :: own)).length g ∧ H[o]? = some (some ob) ∧ Rw (.pb (b ++ (UInt8.ofNat own.length :: own))) g ob)
      X (evT X) 41 0 code fr0 H := by
      refine ⟨_, rfl, ?_⟩
      have hb0 := fun H => bs0 H
      have hlt : o < H.length := (List.getElem?_eq_some_iff.1 ho).1
      have hA0 := app_lit (H := H) (m := b) (src := .ro c (.pb b) 1) (srcB (.inl rfl)) (by omega)
      have hw0 : Rw (.pb b) 0 ⟨.pb b, 0, .none, 1, true, false, 0⟩ := ⟨rfl, rfl, rfl, rfl, rfl⟩
      generalize (⟨.pb b, 0, .none, 1, true, false, 0⟩ : AM.Obj) = ob0 at *
      have hg := hw.g
      have hp := hw.p
      have hi := hw.ids
      have ht := hw.tg
      obtain ⟨ob1, hw1, hA1⟩ := app_b (H := H ++ [some ob0]) (o := H.length) (m := [UInt8.ofNat own.length]) (src := .ro 1 (.pb [UInt8.ofNat own.length]) 0) (cat_at H _) hw0 (.inl rfl) (by simp; omega)
      rw [show upd (H ++ [some ob0]) H.length (some ob1) = H ++ [some ob1] from cat_set H _ _] at hA1
      have ho1 : (H ++ [some ob1])[o]? = some (some ob) := by rw [List.getElem?_append_left hlt]; exact ho
      obtain ⟨ob2, hw2, hA2⟩ := app_b (H := H ++ [some ob1]) (o := H.length) (m := own) (src := .sl o 0 own.length g) (cat_at H _) hw1 (.inl (by simp [srcV, live, ho1, hg, hi, hp, psub, payB, ptag])) (by simp; omega)
      rw [show upd (H ++ [some ob1]) H.length (some ob2) = H ++ [some ob2] from cat_set H _ _] at hA2
      have wl : IntKind.u8.wrap (own.length : Int) = (own.length : Int) := wrap_u8 (by omega) (by omega)
      have hbl := fun H => bsK H (UInt8.ofNat own.length) (own.length : Int) (by simp; omega)
      have ho0 : (H ++ [some ob0])[o]? = some (some ob) := by rw [List.getElem?_append_left hlt]; exact ho
      refine Tells.of (o := ⟨.ret, [(6, .sl H.length 0 (b.length + 1 + own.length) 2)], H ++ [some ob2]⟩) ⟨0, ?_⟩ ⟨rfl, H.length, 2, ob2, by simp [getF]; omega, cat_at H _, by simpa using hw2⟩
      simp only [List.length_append, List.length_cons, List.length_nil, Nat.zero_add] at hA1 hA2
      generalize UInt8.ofNat own.length = ol at *
      generalize own.length = n at *
      generalize H.length = hl at *
      simp (maxSteps := 2000000) -implicitDefEqProofs [-getElem?_pos, List.getElem?_cons_zero, List.getElem?_cons_succ, go_sem, eqV, plen, loadV, storeV, hf0, hf7, hb0, hA0, ho0, ho1, hg, wl, hbl, hA1, hA2, assignV]
    obtain ⟨code', h1, h2⟩ := gen
    rw [hcode] at h1
    exact (Option.some.inj h1) ▸ h2
  have fin := fun (H : AM.Heap) (o g : Nat) (ob : AM.Obj) (own : List UInt8) (tl : AM.Frame) (how : own.length ≤ 120) (ho : H[o]? = some (some ob)) (hw : Rw (.pb own) g ob) (code : Code) (hcode : (mtE.bind cR) = some code) => fin0 H o g ob own ([(0, .ro c (.pb b) 1), (4, .ptr 0 0 0 0), (7, .sl o 0 own.length g)] ++ tl) rfl rfl how ho hw code hcode
  have fin2 := fun (H : AM.Heap) (o g : Nat) (ob : AM.Obj) (own : List UInt8) (how : own.length ≤ 120) (ho : H[o]? = some (some ob)) (hw : Rw (.pb own) g ob) (code : Code) (hcode : (mtE.bind cR) = some code) => fin0 H o g ob own [(0, .ro c (.pb b) 1), (7, .sl o 0 own.length g)] rfl rfl how ho hw code hcode
  unfold usB
  have hg := hw.g
  by_cases hus : w.us = 0
  · rw [if_pos hus, List.append_nil]
    apply Tells.seq (fr' := [(0, .ro c (.pb b) 1), (4, .ptr 0 0 0 0), (7, .sl o 0 own.length g)] ++ [(69, .bool false)]) (H' := H)
    · generalize own.length = n at *
      (refine ⟨0, ?_⟩; simp (maxSteps := 2000000) -implicitDefEqProofs [-getElem?_pos, List.getElem?_cons_zero, List.getElem?_cons_succ, go_sem, eqV, plen, loadV, storeV, h0, whO, Wh.pay, hus])
    exact fin H o g ob own _ (by omega) ho hw _ rfl
  · rw [if_neg hus]
    have husb : (w.us != 0) = true := by simpa using hus
    obtain ⟨un, hun⟩ : ∃ n : Nat, w.us = (n : Int) := ⟨w.us.toNat, by omega⟩
    have eu : w.us.toNat = un := by rw [hun]; simp
    rw [eu]
    have wd : IntKind.u64.wrap w.us = (un : Int) := by rw [hun]; exact wrap_u64 (by omega) (by omega)
    obtain ⟨ob2, hw2, hF⟩ := rfx_ev (H := H) (a := .sl o 0 own.length g) (b := own) (x := un) (n := 4) (N := 4) (Byt.whole' ho hw) rfl (by omega) (by omega) (by omega) (by omega)
    apply Tells.seq (fr' := [(0, .ro c (.pb b) 1), (7, .sl H.length 0 (own.length + 4) 0)]) (H' := H ++ [some ob2])
    · generalize own.length = n at *
      generalize hHl : H.length = hl at *
      (refine ⟨0, ?_⟩; simp (maxSteps := 2000000) -implicitDefEqProofs [-getElem?_pos, List.getElem?_cons_zero, List.getElem?_cons_succ, go_sem, eqV, plen, loadV, storeV, h0, whO, Wh.pay, husb, wd, hF, assignV])
    have := fin2 (H ++ [some ob2]) H.length 0 ob2 (own ++ leB 4 un) (by simp [leB_len]; omega) (cat_at H _) hw2 _ rfl
    rw [show (own ++ leB 4 un).length = own.length + 4 by simp [leB_len]] at this ⊢
    exact this

end

end Go.Proofs.Ytafdnpcamepbmaa

/- Walks: the document's moment, appended. -/
namespace Go.Proofs.Ytafdnpcamepbmaa
open Go.AM
set_option linter.unusedSimpArgs false
set_option linter.unusedVariables false

noncomputable def mtO : Option Code := ((((Try.f41.body).bind cR).bind cR).bind cL)

def mtP (c : Nat) (b : List UInt8) (w : Wh) (t : Nat) (fr : AM.Frame) (H : AM.Heap) : Prop :=
  ∃ o g ob own tl, fr = [(0, .ro c (.pb b) 1), (4, .ptr 0 0 0 0), (7, .sl o 0 own.length g)] ++ tl ∧ H[0]? = some (some (whO w)) ∧ H[o]? = some (some ob) ∧ Rw (.pb own) g ob ∧ own.length ≤ 100 ∧ (UInt8.ofNat (own ++ usB w).length :: (own ++ usB w)) = whB w t

theorem span_zero {w : Wh} (hf : fin w 11 = true) : (w.d = 0 ∧ mid w = true) ↔ w = {} := by
  unfold fin btw at hf
  simp only [Bool.and_eq_true, decide_eq_true_eq, if_true, Bool.not_eq_true', Bool.and_eq_false_iff] at hf
  unfold mid
  obtain ⟨neg, y, mo, d, h, mi, s, us⟩ := w
  simp only [decide_eq_true_eq, Wh.mk.injEq] at *
  constructor
  · rintro ⟨h1, h2, h3, h4, h5⟩
    refine ⟨?_, hf.2.1, hf.2.2.1, h1, h2, h3, h4, h5⟩
    rcases hf.2.2.2.2 with h6 | h6 | h6
    · exact h6
    · simp only [decide_eq_false_iff_not] at h6; exact absurd h1 h6
    · unfold mid at h6; simp only [decide_eq_false_iff_not] at h6; exact absurd ⟨h2, h3, h4, h5⟩ h6
  · rintro ⟨h1, h2, h3, h4, h5, h6, h7, h8⟩
    exact ⟨h4, h5, h6, h7, h8⟩

section
variable (c : Nat) (b : List UInt8) (w : Wh)

set_option maxRecDepth 100000 in
set_option maxHeartbeats 4000000 in
theorem mt_span (hf : fin w 11 = true) : ∃ code, mtO = some code ∧ Tells (Goes (mtP c b w 11)) X (evT X) 41 0 code [(0, .ro c (.pb b) 1), (2, .int .u8 11), (4, .ptr 0 0 0 0)] [some (whO w), some nilB, some nilB] := by
  refine ⟨_, rfl, ?_⟩
  have hck : clk w = true := by unfold fin at hf; simp only [Bool.and_eq_true] at hf; exact hf.1
  have hM := fun H => mid_ev hck H
  have hz := span_zero hf
  obtain ⟨n1, n2, n3, n4, n5, n6, n7, n8, n9, n10, n11, n12, n13, n14⟩ := fin_nn hf
  apply Tells.seq (fr' := [(0, .ro c (.pb b) 1), (4, .ptr 0 0 0 0), (10, .bool true)]) (H' := [some (whO w), some nilB, some nilB])
  · (refine ⟨0, ?_⟩; simp (maxSteps := 2000000) -implicitDefEqProofs [-getElem?_pos, List.getElem?_cons_zero, List.getElem?_cons_succ, go_sem, eqV, plen, loadV, storeV])
  apply tcondT (by simp [evalO, getF])
  apply Tells.seq
  · (refine ⟨0, ?_⟩; conv => lhs; simp (maxSteps := 2000000) -implicitDefEqProofs [-getElem?_pos, List.getElem?_cons_zero, List.getElem?_cons_succ, go_sem, eqV, plen, loadV, storeV])
  generalize hy : (if w.neg then (1 : UInt8) else 0) = y at *
  apply Tells.andThen (P := fun fr H => ∃ tl, fr = [(0, .ro c (.pb b) 1), (4, .ptr 0 0 0 0), (8, .int .u8 (y.toNat : Nat))] ++ tl ∧ H = [some (whO w), some nilB, some nilB])
  · cases hn : w.neg with
    | true =>
      rw [hn] at hy
      refine Tells.of (o := ⟨.normal, [(0, .ro c (.pb b) 1), (4, .ptr 0 0 0 0), (8, .int .u8 1)], [some (whO w), some nilB, some nilB]⟩) ⟨0, ?_⟩ ⟨rfl, [], by rw [← hy]; rfl, rfl⟩
      simp (maxSteps := 2000000) -implicitDefEqProofs [-getElem?_pos, List.getElem?_cons_zero, List.getElem?_cons_succ, go_sem, eqV, plen, loadV, storeV, whO, Wh.pay, hn]
    | false =>
      rw [hn] at hy
      refine Tells.of (o := ⟨.normal, [(0, .ro c (.pb b) 1), (4, .ptr 0 0 0 0), (8, .int .u8 0), (12, .bool false)], [some (whO w), some nilB, some nilB]⟩) ⟨0, ?_⟩ ⟨rfl, [(12, .bool false)], by rw [← hy]; rfl, rfl⟩
      simp (maxSteps := 2000000) -implicitDefEqProofs [-getElem?_pos, List.getElem?_cons_zero, List.getElem?_cons_succ, go_sem, eqV, plen, loadV, storeV, whO, Wh.pay, hn]
  rintro fr H ⟨tl, rfl, rfl⟩
  obtain ⟨dn, hdn⟩ : ∃ n : Nat, w.d = (n : Int) := ⟨w.d.toNat, by omega⟩
  obtain ⟨hn, hhn⟩ : ∃ n : Nat, w.h = (n : Int) := ⟨w.h.toNat, by omega⟩
  obtain ⟨mn, hmn⟩ : ∃ n : Nat, w.mi = (n : Int) := ⟨w.mi.toNat, by omega⟩
  obtain ⟨sn, hsn⟩ : ∃ n : Nat, w.s = (n : Int) := ⟨w.s.toNat, by omega⟩
  have ed : w.d.toNat = dn := by rw [hdn]; simp
  obtain ⟨ob3, hw3, hF⟩ := rfx_ev (H := [some (whO w), some nilB, some nilB]) (a := .ro 1 (.pb [y]) 0) (b := [y]) (x := dn) (n := 4) (N := 4) (Byt.ro (.inl rfl) (by omega)) rfl (by simp) (by omega) (by omega) (by omega)
  have hcl : clB w = [UInt8.ofNat hn, UInt8.ofNat mn, UInt8.ofNat sn] := by unfold clB; rw [hhn, hmn, hsn]; simp
  obtain ⟨ob4, hw4, hA⟩ := app_b (H := [some (whO w), some nilB, some nilB, some ob3]) (o := 3) (m := clB w) (src := .ro 1 (.pb (clB w)) 0) rfl hw3 (.inl rfl) (by simp [leB_len, clB])
  have l3 : ([y] ++ leB 4 dn).length = 5 := by simp [leB_len]
  rw [l3, hcl] at hA
  apply Tells.seq (fr' := [(0, .ro c (.pb b) 1), (4, .ptr 0 0 0 0), (7, .sl 3 0 8 1)]) (H' := [some (whO w), some nilB, some nilB, some ob4])
  · have hbs := fun H => bs1 H y
    have wd : IntKind.u64.wrap w.d = (dn : Int) := by rw [hdn]; exact wrap_u64 (by omega) (by omega)
    have w1 : IntKind.u8.wrap w.h = (hn : Int) := by rw [hhn]; exact wrap_u8 (by omega) (by omega)
    have w2 : IntKind.u8.wrap w.mi = (mn : Int) := by rw [hmn]; exact wrap_u8 (by omega) (by omega)
    have w3 : IntKind.u8.wrap w.s = (sn : Int) := by rw [hsn]; exact wrap_u8 (by omega) (by omega)
    have hbs3 := fun H => bs3n H hn mn sn (by omega) (by omega) (by omega)
    have hg3 := hw3.g
    have hi3 := hw3.ids
    have hp3 := hw3.p
    simp only [List.length_cons, List.length_nil, whO, Wh.pay, List.cons_append, List.nil_append] at hF hA
    clear hM hw4 hcl
    generalize [UInt8.ofNat hn, UInt8.ofNat mn, UInt8.ofNat sn] = cl at *
    apply Run.dy (by simp) keep41_6 (by simp)
    · (conv => lhs; simp (maxSteps := 2000000) -implicitDefEqProofs [-getElem?_pos, List.getElem?_cons_zero, List.getElem?_cons_succ, go_sem, eqV, plen, loadV, storeV, runD, out1, markOf, freeO, quietO, pushes, isAssign, calledV, touched, mentioned, opVals, touchCall, mentionCall, idsAt, Op.operands, ids, idsL, lendArgs, lendV, lend1, lendL, eqH_self, whO, Wh.pay, hbs, hbs3, wd, w1, w2, w3, hF, hA, upd, assignV, reach_none, hg3, hi3, hp3])
      rfl
    · kernel_rfl
    · rfl
  simp only [whO, Wh.pay] at hM
  by_cases hw0 : w = {}
  · have hb := hz.2 hw0
    rw [hb.2] at hM
    refine Tells.of (o := ⟨.normal, [(0, .ro c (.pb b) 1), (4, .ptr 0 0 0 0), (7, .sl 4 0 0 0)], [some (whO w), some nilB, some nilB, some ob4, some nilB]⟩) ⟨0, ?_⟩ ⟨rfl, 4, 0, nilB, [], [], rfl, rfl, rfl, nilB_rw, by simp, ?_⟩
    · have hd0 := hb.1
      rw [hd0] at hM
      simp (maxSteps := 2000000) -implicitDefEqProofs [-getElem?_pos, List.getElem?_cons_zero, List.getElem?_cons_succ, go_sem, eqV, plen, loadV, storeV, whO, Wh.pay, mkWh, hd0, hM, assignV, emB]
    · unfold whB spB usB
      rw [if_pos rfl, if_pos hw0]
      subst hw0
      rfl
  · refine Tells.of (o := ⟨.normal, [(0, .ro c (.pb b) 1), (4, .ptr 0 0 0 0), (7, .sl 3 0 8 1), (36, .bool false)], [some (whO w), some nilB, some nilB, some ob4]⟩) ⟨0, ?_⟩ ⟨rfl, 3, 1, ob4, [y] ++ leB 4 dn ++ clB w, [(36, .bool false)], by simp [leB_len, clB], rfl, rfl, hw4, by simp [leB_len, clB], ?_⟩
    · by_cases hd0 : w.d = 0
      · have hm : mid w = false := by
          cases hm : mid w with
          | false => rfl
          | true => exact absurd (hz.1 ⟨hd0, hm⟩) hw0
        rw [hm, hd0] at hM
        simp (maxSteps := 2000000) -implicitDefEqProofs [-getElem?_pos, List.getElem?_cons_zero, List.getElem?_cons_succ, go_sem, eqV, plen, loadV, storeV, whO, Wh.pay, mkWh, hd0, hM]
      · have hd0b : (w.d == 0) = false := by simpa using hd0
        simp (maxSteps := 2000000) -implicitDefEqProofs [-getElem?_pos, List.getElem?_cons_zero, List.getElem?_cons_succ, go_sem, eqV, plen, loadV, storeV, whO, Wh.pay, hd0b]
    · unfold whB spB
      rw [if_pos rfl, if_neg hw0, hy, ed]
      unfold usB
      by_cases hus : w.us = 0
      · rw [if_pos hus, if_pos hus]
        simp [leB_len, clB]
      · rw [if_neg hus, if_neg hus]
        simp [leB_len, clB]

theorem mo_mid {t : Nat} (h11 : t ≠ 11) (hf : fin w t = true) : (w = { y := w.y, mo := w.mo, d := w.d }) ↔ mid w = true := by
  unfold fin at hf
  rw [if_neg h11] at hf
  simp only [Bool.and_eq_true, Bool.not_eq_true'] at hf
  have hn := hf.2.1
  unfold mid
  obtain ⟨neg, y, mo, d, h, mi, s, us⟩ := w
  simp only [decide_eq_true_eq, Wh.mk.injEq, true_and] at *
  constructor
  · rintro ⟨_, h1, h2, h3, h4⟩; exact ⟨h1, h2, h3, h4⟩
  · rintro ⟨h1, h2, h3, h4⟩; exact ⟨hn, h1, h2, h3, h4⟩

set_option maxRecDepth 100000 in
set_option maxHeartbeats 4000000 in
theorem mt_moment (t : Nat) (ht : t < 256) (h11 : t ≠ 11) (hf : fin w t = true) : ∃ code, mtO = some code ∧ Tells (Goes (mtP c b w t)) X (evT X) 41 0 code [(0, .ro c (.pb b) 1), (2, .int .u8 (t : Nat)), (4, .ptr 0 0 0 0)] [some (whO w), some nilB, some nilB] := by
  refine ⟨_, rfl, ?_⟩
  have hck : clk w = true := by unfold fin at hf; simp only [Bool.and_eq_true] at hf; exact hf.1
  have hM := fun H => mid_ev hck H
  have hz := mo_mid w h11 hf
  have h11b : ((t : Int) == 11) = false := by simp; omega
  obtain ⟨n1, n2, n3, n4, n5, n6, n7, n8, n9, n10, n11, n12, n13, n14⟩ := fin_nn hf
  apply Tells.seq (fr' := [(0, .ro c (.pb b) 1), (4, .ptr 0 0 0 0), (10, .bool false)]) (H' := [some (whO w), some nilB, some nilB])
  · (refine ⟨0, ?_⟩; simp (maxSteps := 2000000) -implicitDefEqProofs [-getElem?_pos, List.getElem?_cons_zero, List.getElem?_cons_succ, go_sem, eqV, plen, loadV, storeV, h11b])
  apply tcondF (by simp [evalO, getF])
  obtain ⟨yn, hyn⟩ : ∃ n : Nat, w.y = (n : Int) := ⟨w.y.toNat, by omega⟩
  obtain ⟨on, hon⟩ : ∃ n : Nat, w.mo = (n : Int) := ⟨w.mo.toNat, by omega⟩
  obtain ⟨dn, hdn⟩ : ∃ n : Nat, w.d = (n : Int) := ⟨w.d.toNat, by omega⟩
  obtain ⟨hn, hhn⟩ : ∃ n : Nat, w.h = (n : Int) := ⟨w.h.toNat, by omega⟩
  obtain ⟨mn, hmn⟩ : ∃ n : Nat, w.mi = (n : Int) := ⟨w.mi.toNat, by omega⟩
  obtain ⟨sn, hsn⟩ : ∃ n : Nat, w.s = (n : Int) := ⟨w.s.toNat, by omega⟩
  have ey : w.y.toNat = yn := by rw [hyn]; simp
  have eo : w.mo.toNat = on := by rw [hon]; simp
  have ed : w.d.toNat = dn := by rw [hdn]; simp
  obtain ⟨ob3, hw3, hF⟩ := rfx_ev (H := [some (whO w), some nilB, some nilB]) (a := .ro 0 .pn 0) (b := []) (x := yn) (n := 2) (N := 2) Byt.nil rfl (by simp) (by omega) (by omega) (by omega)
  obtain ⟨ob4, hw4, hA⟩ := app_b (H := [some (whO w), some nilB, some nilB, some ob3]) (o := 3) (m := [UInt8.ofNat on, UInt8.ofNat dn]) (src := .ro 1 (.pb [UInt8.ofNat on, UInt8.ofNat dn]) 0) rfl hw3 (.inl rfl) (by simp [leB_len])
  have hcl : clB w = [UInt8.ofNat hn, UInt8.ofNat mn, UInt8.ofNat sn] := by unfold clB; rw [hhn, hmn, hsn]; simp
  obtain ⟨ob5, hw5, hA2⟩ := app_b (H := [some (whO w), some nilB, some nilB, some ob4]) (o := 3) (m := clB w) (src := .ro 1 (.pb (clB w)) 0) rfl hw4 (.inl rfl) (by simp [leB_len, clB])
  have l3 : (([] : List UInt8) ++ leB 2 yn).length = 2 := by simp [leB_len]
  have l4 : (([] : List UInt8) ++ leB 2 yn ++ [UInt8.ofNat on, UInt8.ofNat dn]).length = 4 := by simp [leB_len]
  rw [l3] at hA
  rw [l4, hcl] at hA2
  apply Tells.seq (fr' := [(0, .ro c (.pb b) 1), (4, .ptr 0 0 0 0), (7, .sl 3 0 4 1)]) (H' := [some (whO w), some nilB, some nilB, some ob4])
  · have wd : IntKind.u64.wrap w.y = (yn : Int) := by rw [hyn]; exact wrap_u64 (by omega) (by omega)
    have w1 : IntKind.u8.wrap w.mo = (on : Int) := by rw [hon]; exact wrap_u8 (by omega) (by omega)
    have w2 : IntKind.u8.wrap w.d = (dn : Int) := by rw [hdn]; exact wrap_u8 (by omega) (by omega)
    have hbs2 := fun H => bs2n H on dn (by omega) (by omega)
    have hg3 := hw3.g
    have hi3 := hw3.ids
    have hp3 := hw3.p
    simp only [List.length_cons, List.length_nil, whO, Wh.pay, List.cons_append, List.nil_append, Nat.zero_add] at hF hA
    clear hM hw4 hcl hA2 hw5
    generalize [UInt8.ofNat on, UInt8.ofNat dn] = od at *
    apply Run.dy (by simp) keep41_9 (by simp)
    · (conv => lhs; simp (maxSteps := 2000000) -implicitDefEqProofs [-getElem?_pos, List.getElem?_cons_zero, List.getElem?_cons_succ, go_sem, eqV, plen, loadV, storeV, runD, out1, markOf, freeO, quietO, pushes, isAssign, calledV, touched, mentioned, opVals, touchCall, mentionCall, idsAt, Op.operands, ids, idsL, lendArgs, lendV, lend1, lendL, eqH_self, whO, Wh.pay, hbs2, wd, w1, w2, hF, hA, upd, assignV, reach_none, hg3, hi3, hp3])
      rfl
    · kernel_rfl
    · rfl
  have hg4 := hw4.g
  unfold mtP
  cases hm : mid w with
  | false =>
    rw [hm] at hM
    simp only [whO, Wh.pay] at hM
    have hne : ¬ w = { y := w.y, mo := w.mo, d := w.d } := fun h => by rw [hz.1 h] at hm; cases hm
    have hw0 : ¬ w = {} := fun h => hne (by rw [h])
    refine Tells.of (o := ⟨.normal, [(0, .ro c (.pb b) 1), (4, .ptr 0 0 0 0), (7, .sl 3 0 7 2)], [some (whO w), some nilB, some nilB, some ob5]⟩) ⟨0, ?_⟩ ⟨rfl, 3, 2, ob5, _, [], by rw [List.length_append, l4, hcl]; rfl, rfl, rfl, hw5, by simp [leB_len, clB], ?_⟩
    · have w1 : IntKind.u8.wrap w.h = (hn : Int) := by rw [hhn]; exact wrap_u8 (by omega) (by omega)
      have w2 : IntKind.u8.wrap w.mi = (mn : Int) := by rw [hmn]; exact wrap_u8 (by omega) (by omega)
      have w3 : IntKind.u8.wrap w.s = (sn : Int) := by rw [hsn]; exact wrap_u8 (by omega) (by omega)
      have hbs3 := fun H => bs3n H hn mn sn (by omega) (by omega) (by omega)
      simp only [List.length_cons, List.length_nil, whO, Wh.pay] at hA2
      generalize [UInt8.ofNat hn, UInt8.ofNat mn, UInt8.ofNat sn] = cl at *
      simp (maxSteps := 2000000) -implicitDefEqProofs [-getElem?_pos, List.getElem?_cons_zero, List.getElem?_cons_succ, go_sem, eqV, plen, loadV, storeV, whO, Wh.pay, mkWh, hM, unV, w1, w2, w3, hbs3, hA2, upd]
    · unfold whB moB moN
      rw [if_neg h11, if_neg hw0, if_neg hne, if_neg hne, ey, eo, ed]
      unfold usB
      by_cases hus : w.us = 0
      · rw [if_pos hus, if_pos hus]
        simp [leB_len, clB]
      · rw [if_neg hus, if_neg hus]
        simp [leB_len, clB]
  | true =>
    rw [hm] at hM
    simp only [whO, Wh.pay] at hM
    have heq := hz.2 hm
    have hus : w.us = 0 := by unfold mid at hm; simp only [decide_eq_true_eq] at hm; exact hm.2.2.2
    have hE := fun H xo yo => eqWh w {} H xo yo
    have hb0 := bdW0
    simp only [Wh.pay, Int.cast_ofNat_Int] at hE
    by_cases hw0 : w = {}
    · rw [decide_eq_true hw0] at hE
      refine Tells.of (o := ⟨.normal, [(0, .ro c (.pb b) 1), (4, .ptr 0 0 0 0), (7, .sl 4 0 0 0)], [some (whO w), some nilB, some nilB, some ob4, some nilB]⟩) ⟨0, ?_⟩ ⟨rfl, 4, 0, nilB, [], [], rfl, rfl, rfl, nilB_rw, by simp, ?_⟩
      · generalize hz0 : (AV.pc [.bool false, .int .i64 0, .int .i64 0, .int .i64 0, .int .i64 0, .int .i64 0, .int .i64 0, .int .i64 0]) = pz at *
        simp (maxSteps := 2000000) -implicitDefEqProofs [-getElem?_pos, List.getElem?_cons_zero, List.getElem?_cons_succ, go_sem, eqV, plen, loadV, storeV, -eqV, whO, Wh.pay, mkWh, hM, unV, hb0, hE, assignV, emB]
      · unfold whB moB usB
        rw [if_neg h11, if_pos hw0, if_pos hus]
        rfl
    · rw [decide_eq_false hw0] at hE
      refine Tells.of (o := ⟨.normal, [(0, .ro c (.pb b) 1), (4, .ptr 0 0 0 0), (7, .sl 3 0 4 1), (66, .bool false)], [some (whO w), some nilB, some nilB, some ob4]⟩) ⟨0, ?_⟩ ⟨rfl, 3, 1, ob4, _, [(66, .bool false)], by rw [l4]; rfl, rfl, rfl, hw4, by simp [leB_len], ?_⟩
      · generalize hz0 : (AV.pc [.bool false, .int .i64 0, .int .i64 0, .int .i64 0, .int .i64 0, .int .i64 0, .int .i64 0, .int .i64 0]) = pz at *
        simp (maxSteps := 2000000) -implicitDefEqProofs [-getElem?_pos, List.getElem?_cons_zero, List.getElem?_cons_succ, go_sem, eqV, plen, loadV, storeV, -eqV, whO, Wh.pay, mkWh, hM, unV, hb0, hE]
      · unfold whB moB moN usB
        rw [if_neg h11, if_neg hw0, if_pos heq, if_pos heq, if_pos hus, ey, eo, ed]
        simp [leB_len]

set_option maxRecDepth 100000 in
theorem mt_code (t : Nat) (hc : c = 0 → b = []) (hb : b.length ≤ 100000) (ht : t < 256) (hf : fin w t = true) : ∃ code, Try.f41.body = some code ∧
    Tells (Rets fun fr H => ∃ o g ob, getF fr 6 = .sl o 0 (b ++ whB w t).length g ∧ H[o]? = some (some ob) ∧ Rw (.pb (b ++ whB w t)) g ob) X (evT X) 41 0 code [(0, .ro c (.pb b) 1), (1, .agg w.pay), (2, .int .u8 (t : Nat))] [] := by
  refine ⟨_, rfl, ?_⟩
  have hnn := fin_nn hf
  apply Tells.seq (fr' := [(0, .ro c (.pb b) 1), (2, .int .u8 (t : Nat)), (4, .ptr 0 0 0 0)]) (H' := [some (whO w), some nilB])
  · (refine ⟨0, ?_⟩; simp (maxSteps := 2000000) -implicitDefEqProofs [-getElem?_pos, List.getElem?_cons_zero, List.getElem?_cons_succ, go_sem, eqV, plen, loadV, storeV, whO, Wh.pay, assignV, emB])
  apply Tells.seq (fr' := [(0, .ro c (.pb b) 1), (2, .int .u8 (t : Nat)), (4, .ptr 0 0 0 0)]) (H' := [some (whO w), some nilB, some nilB])
  · (refine ⟨0, ?_⟩; simp (maxSteps := 2000000) -implicitDefEqProofs [-getElem?_pos, List.getElem?_cons_zero, List.getElem?_cons_succ, go_sem, eqV, plen, loadV, storeV, assignV, emB])
  apply Tells.andThen (P := mtP c b w t)
  · by_cases h11 : t = 11
    · subst h11
      exact pieceF (mt_span c b w hf) _ rfl
    · exact pieceF (mt_moment c b w t ht h11 hf) _ rfl
  rintro fr H ⟨o, g, ob, own, tl, rfl, h0, ho, hw, how, hB⟩
  have := pieceF (mt_end c b own w H o g ob tl hc hb how h0 ho hw ⟨hnn.2.2.2.2.2.2.2.2.2.2.2.2.1, hnn.2.2.2.2.2.2.2.2.2.2.2.2.2⟩) _ rfl
  rw [hB] at this
  exact this

end

theorem mt_ev {H : AM.Heap} {a : AV} {b : List UInt8} {w : Wh} {t : Nat} (h : Byt H a b) (hb : b.length ≤ 100000) (ht : t < 256) (hf : fin w t = true) :
    ∃ ob, Rw (.pb (b ++ whB w t)) 0 ob ∧ evT X 41 [a, .agg w.pay, .int .u8 (t : Nat)] H = some (.sl H.length 0 (b ++ whB w t).length 0, H ++ [some ob]) := by
  obtain ⟨c, p, xl, hp, hc, hx'⟩ := args_byt (C := X) (f := 41) (i := 0) rfl h (args_wh (f := 41) (i := 1) (w := w) (args_flat (i := 2) (a := .int .u8 (t : Nat)) rfl rfl (args_nil 3)))
  obtain ⟨code, hcode, hr⟩ := mt_code c b w t hc hb ht hf
  obtain ⟨ob, q1, q2⟩ := Ev1.newB (H := H) (n := (b ++ whB w t).length) (l := b ++ whB w t) (rest := []) (evT_below X) Try.func41 hcode hx' (by simp [Wh.pay, idsL, ids, hp.ids]) (by simp [gtag]) rfl rfl rfl (by
    obtain ⟨o, ⟨he, o1, g, ob, q1, q3, q4⟩, hrun⟩ := hr
    exact ⟨o, ⟨he, o1, g, ob, by show some [getF o.fr 6] = _; rw [q1], q3, q4⟩, by rw [par41, coB hp]; exact hrun⟩)
  exact ⟨ob, q1, evT_eq q2⟩

end Go.Proofs.Ytafdnpcamepbmaa

/- Walks: the document's value appended. -/
namespace Go.Proofs.Ytafdnpcamepbmaa
open Go.AM
set_option linter.unusedSimpArgs false
set_option linter.unusedVariables false

theorem leB_mod : ∀ n x, leB n (x % 256 ^ n) = leB n x
  | 0, x => rfl
  | n + 1, x => by
    simp only [leB]
    rw [Nat.pow_succ, Nat.mul_comm (256 ^ n) 256, Nat.mod_mul_right_mod, Nat.mod_mul_right_div_self, leB_mod n]

theorem and_mask {x k : Nat} (hx : x < 18446744073709551616) (hk : k ≤ 63) :
    IntKind.u64.wrap ((AM.bits .u64 (x : Int) &&& AM.bits .u64 (((2 ^ k - 1 : Nat)) : Int)).toNat : Nat) = ((x % 2 ^ k : Nat) : Int) := by
  have hb : ∀ v : Nat, v < 18446744073709551616 → (AM.bits .u64 (v : Int)).toNat = v := by
    intro v hv
    unfold AM.bits
    simp [IntKind.bits]
    omega
  have hp : 2 ^ k ≤ 2 ^ 63 := Nat.pow_le_pow_right (by omega) hk
  have e : (AM.bits .u64 (x : Int) &&& AM.bits .u64 (((2 ^ k - 1 : Nat)) : Int)).toNat = x % 2 ^ k := by
    rw [show (AM.bits .u64 (x : Int) &&& AM.bits .u64 (((2 ^ k - 1 : Nat)) : Int)).toNat = (AM.bits .u64 (x : Int)).toNat &&& (AM.bits .u64 (((2 ^ k - 1 : Nat)) : Int)).toNat by simp]
    rw [hb x hx, hb _ (by omega), Nat.and_two_pow_sub_one_eq_mod]
  rw [e]
  have := Nat.mod_lt x (Nat.pow_pos (n := k) (show 0 < 2 by omega))
  rw [wrap_u64 (by omega) (by omega)]

theorem ui_lt (i : Int) : ui i < 18446744073709551616 := by
  have h := ui_eq i
  have : IntKind.u64.wrap i < 18446744073709551616 := by
    unfold IntKind.wrap
    simp [IntKind.signed, IntKind.bits]
    exact Int.emod_lt_of_pos _ (by decide)
  omega

/-- the bits of a value that may be fit its type -/
theorem ok_bits {v : Va} {t : Ty} (h : chkV v t = 0) (hvb : v.b < 18446744073709551616) (hk : v.k = 2 ∨ v.k = 3 ∨ v.k = 4) : v.b < 256 ^ sizeN t.t := by
  rcases chk_ok h with rfl | h
  · exact absurd hk (by decide)
  unfold okVa okVk at h
  rw [if_neg (by omega), if_pos hk] at h
  simp only [Bool.and_eq_true, decide_eq_true_eq] at h
  obtain ⟨h1, h2, h3⟩ := h
  have hs := size_num (t := t.t) (u := t.u) (by omega)
  unfold okB at h3
  generalize sizeN t.t = n at *
  simp only [Bool.or_eq_true, decide_eq_true_eq] at h3
  rcases hs with rfl | rfl | rfl | rfl
  · rcases h3 with h3 | h3
    · omega
    · simpa using h3
  · rcases h3 with h3 | h3
    · omega
    · simpa using h3
  · rcases h3 with h3 | h3
    · omega
    · simpa using h3
  · simpa using hvb

section
variable (c : Nat) (b : List UInt8) (v : Va) (t : Ty)

set_option maxRecDepth 100000 in
set_option maxHeartbeats 4000000 in
theorem rvappend_code (hc : c = 0 → b = []) (hb : b.length ≤ 100000) (ht : t.t < 256) (hvb : v.b < 18446744073709551616) : ∃ code, Try.f25.body = some code ∧
    Tells (Rets fun fr H => ∃ o g ob, getF fr 6 = .sl o 0 (apV b v t).1.length g ∧ getF fr 7 = .int .i64 (apV b v t).2 ∧ H[o]? = some (some ob) ∧ Rw (.pb (apV b v t).1) g ob) X (evT X) 25 0 code [(0, .ro c (.pb b) 1), (1, .agg v.pay), (2, .agg t.pay)] [] := by
  refine ⟨_, rfl, ?_⟩
  have hC := rcheck_ev (v := v) (t := t) ht [some (vaO v), some (tyO t), some nilB]
  apply Tells.seq (fr' := [(0, .ro c (.pb b) 1), (4, .ptr 0 0 0 0), (5, .ptr 1 0 0 0)]) (H' := [some (vaO v), some (tyO t), some nilB])
  · (refine ⟨0, ?_⟩; simp (maxSteps := 2000000) -implicitDefEqProofs [-getElem?_pos, List.getElem?_cons_zero, List.getElem?_cons_succ, go_sem, eqV, plen, loadV, storeV, vaO, tyO, Va.pay, Ty.pay, assignV, emB])
  apply Tells.seq (fr' := [(0, .ro c (.pb b) 1), (4, .ptr 0 0 0 0), (5, .ptr 1 0 0 0), (8, .int .i64 (chkV v t))]) (H' := [some (vaO v), some (tyO t), some nilB])
  · simp only [vaO, tyO, Va.pay, Ty.pay] at hC
    generalize chkV v t = ck at *
    (refine ⟨0, ?_⟩; simp (maxSteps := 2000000) -implicitDefEqProofs [-getElem?_pos, List.getElem?_cons_zero, List.getElem?_cons_succ, go_sem, eqV, plen, loadV, storeV, vaO, tyO, Va.pay, Ty.pay, mkVa, mkTy, hC])
  clear hC
  unfold apV
  cases hok : apOk v t with
  | false =>
    rw [if_neg (by simp)]
    refine Tells.of (o := ⟨.ret, [(6, .sl 3 0 0 0), (7, .int .i64 2)], [some (vaO v), some (tyO t), some nilB, some nilB]⟩) ?_ ⟨rfl, 3, 0, nilB, rfl, rfl, rfl, nilB_rw⟩
    apply Run.seq_out (hne := by simp)
    apply Run.seq (fr' := [(0, .ro c (.pb b) 1), (4, .ptr 0 0 0 0), (5, .ptr 1 0 0 0), (25, .bool true)]) (H' := [some (vaO v), some (tyO t), some nilB])
    · unfold apOk at hok
      by_cases h0 : chkV v t = 0
      · rw [h0] at hok ⊢
        simp only [decide_true, Bool.true_and, Bool.not_eq_false', Bool.and_eq_true, decide_eq_true_eq] at hok
        obtain ⟨hk, h6⟩ := hok
        have h6b : ((t.t : Int) != 6) = true := by simp; omega
        (refine ⟨0, ?_⟩; simp (maxSteps := 2000000) -implicitDefEqProofs [-getElem?_pos, List.getElem?_cons_zero, List.getElem?_cons_succ, go_sem, eqV, plen, loadV, storeV, vaO, tyO, Va.pay, Ty.pay, hk, h6b])
      · have h0b : (chkV v t != 0) = true := by simpa using h0
        generalize chkV v t = ck at *
        (refine ⟨0, ?_⟩; simp (maxSteps := 2000000) -implicitDefEqProofs [-getElem?_pos, List.getElem?_cons_zero, List.getElem?_cons_succ, go_sem, eqV, plen, loadV, storeV, vaO, tyO, Va.pay, Ty.pay, h0b])
    refine ⟨0, ?_⟩
    simp (maxSteps := 2000000) -implicitDefEqProofs [-getElem?_pos, List.getElem?_cons_zero, List.getElem?_cons_succ, go_sem, eqV, plen, loadV, storeV, assignV, emB]
  | true =>
  rw [if_pos rfl]
  unfold apOk at hok
  simp only [Bool.and_eq_true, decide_eq_true_eq, Bool.not_eq_true', Bool.and_eq_false_iff, decide_eq_false_iff_not] at hok
  obtain ⟨h0, h06⟩ := hok
  obtain ⟨fs, ff, fl, fk⟩ := ok_facts h0
  have fb := fun h => ok_bits h0 hvb h
  rw [h0]
  apply Tells.seq (fr' := [(0, .ro c (.pb b) 1), (4, .ptr 0 0 0 0), (5, .ptr 1 0 0 0), (25, .bool false)]) (H' := [some (vaO v), some (tyO t), some nilB])
  · by_cases hk : v.k = 0
    · have h6 : t.t = 6 := by
        rcases h06 with h | h
        · exact absurd hk h
        · omega
      (refine ⟨0, ?_⟩; simp (maxSteps := 2000000) -implicitDefEqProofs [-getElem?_pos, List.getElem?_cons_zero, List.getElem?_cons_succ, go_sem, eqV, plen, loadV, storeV, vaO, tyO, Va.pay, Ty.pay, hk, h6])
    · have hkb : (v.k == 0) = false := by simpa using hk
      (refine ⟨0, ?_⟩; simp (maxSteps := 2000000) -implicitDefEqProofs [-getElem?_pos, List.getElem?_cons_zero, List.getElem?_cons_succ, go_sem, eqV, plen, loadV, storeV, vaO, tyO, Va.pay, Ty.pay, hkb])
  have hS := rsize_ev' ht [some (vaO v), some (tyO t), some nilB]
  apply Tells.seq (fr' := [(0, .ro c (.pb b) 1), (4, .ptr 0 0 0 0), (5, .ptr 1 0 0 0), (9, .int .i64 (rsizeN t.t : Nat))]) (H' := [some (vaO v), some (tyO t), some nilB])
  · simp only [vaO, tyO, Va.pay, Ty.pay] at hS
    generalize rsizeN t.t = n at *
    (refine ⟨0, ?_⟩; simp (maxSteps := 2000000) -implicitDefEqProofs [-getElem?_pos, List.getElem?_cons_zero, List.getElem?_cons_succ, go_sem, eqV, plen, loadV, storeV, vaO, tyO, Va.pay, Ty.pay, hS])
  clear hS
  unfold enV
  rcases fk with kv | kv | kv | kv | kv | kv | kv | kv
  · rw [if_neg (by omega), if_neg (by omega), if_neg (by omega), if_neg (by omega), List.append_nil]
    have hb0 := fun H => bs0 H
    have hA0 := app_lit (H := [some (vaO v), some (tyO t), some nilB]) (m := b) (src := .ro c (.pb b) 1) (srcB (.inl rfl)) (by omega)
    have hw0 : Rw (.pb b) 0 ⟨.pb b, 0, .none, 1, true, false, 0⟩ := ⟨rfl, rfl, rfl, rfl, rfl⟩
    generalize (⟨.pb b, 0, .none, 1, true, false, 0⟩ : AM.Obj) = ob0 at *
    refine Tells.of (o := ⟨.ret, [(6, .sl 3 0 b.length 0), (7, .int .i64 0)], [some (vaO v), some (tyO t), some nilB, some ob0]⟩) ⟨0, ?_⟩ ⟨rfl, 3, 0, ob0, rfl, rfl, rfl, hw0⟩
    simp only [vaO, tyO, Va.pay, Ty.pay] at hA0
    rw [kv] at hA0
    generalize rsizeN t.t = n at *
    simp (maxSteps := 2000000) -implicitDefEqProofs [-getElem?_pos, List.getElem?_cons_zero, List.getElem?_cons_succ, go_sem, eqV, plen, loadV, storeV, vaO, tyO, Va.pay, Ty.pay, kv, hb0, hA0, assignV]
  · rw [if_pos kv]
    obtain ⟨s1, s8⟩ := fs (.inl kv)
    have hrs := rsize_eq (t := t.t) (by omega)
    rw [hrs]
    have hn : sizeN t.t = 1 ∨ sizeN t.t = 2 ∨ sizeN t.t = 4 ∨ sizeN t.t = 8 := by have := rsz t.t; omega
    have wu := (ui_eq v.i).symm
    have hult := ui_lt v.i
    rw [← leB_mod (sizeN t.t) (ui v.i)]
    have hxl : ui v.i % 256 ^ sizeN t.t < 256 ^ sizeN t.t := Nat.mod_lt _ (Nat.pow_pos (by omega))
    obtain ⟨ob1, hw1, hF⟩ := rfx_ev (H := [some (vaO v), some (tyO t), some nilB]) (a := .ro c (.pb b) 1) (b := b) (x := ui v.i % 256 ^ sizeN t.t) (n := sizeN t.t) (N := sizeN t.t) (Byt.ro (.inl rfl) hc) rfl (by omega) s1 s8 hxl
    refine Tells.of (o := ⟨.ret, [(6, .sl 3 0 (b.length + sizeN t.t) 0), (7, .int .i64 0)], [some (vaO v), some (tyO t), some nilB, some ob1]⟩) ?_ ⟨rfl, 3, 0, ob1, by simp [getF, leB_len], rfl, rfl, hw1⟩
    apply Run.seq_out (hne := by simp)
    simp only [vaO, tyO, Va.pay, Ty.pay] at hF
    rw [kv] at hF
    clear hw1 hxl hrs s1 s8 fs fb
    generalize hx : ui v.i = x at *
    generalize sizeN t.t = n at *
    generalize b.length = bl at *
    refine ⟨0, ?_⟩
    rcases hn with rfl | rfl | rfl | rfl
    · have hm := and_mask (x := x) (k := 8) hult (by omega)
      rw [show (256 : Nat) ^ 1 = 2 ^ 8 from rfl] at hF
      generalize x % 2 ^ 8 = z at *
      simp only [Nat.reducePow, Nat.reduceSub, Int.cast_ofNat_Int] at hF
      have hm2 := hm
      simp only [go_sem, Nat.reducePow, Nat.reduceSub, Int.cast_ofNat_Int] at hm2
      simp only [BitVec.toNat_and, Nat.reducePow, Nat.reduceSub, Int.cast_ofNat_Int] at hm
      simp (maxSteps := 2000000) -implicitDefEqProofs [-getElem?_pos, List.getElem?_cons_zero, List.getElem?_cons_succ, go_sem, eqV, plen, loadV, storeV, vaO, tyO, Va.pay, Ty.pay, kv, wu, hm, hm2, hF, assignV, show IntKind.u64.bits = 64 from rfl, show IntKind.i64.wrap 8 = 8 from rfl, show IntKind.u64.wrap 8 = 8 from rfl, show IntKind.u64.wrap 256 = 256 from rfl, show IntKind.u64.wrap 255 = 255 from rfl]
    · have hm := and_mask (x := x) (k := 16) hult (by omega)
      rw [show (256 : Nat) ^ 2 = 2 ^ 16 from rfl] at hF
      generalize x % 2 ^ 16 = z at *
      simp only [Nat.reducePow, Nat.reduceSub, Int.cast_ofNat_Int] at hF
      have hm2 := hm
      simp only [go_sem, Nat.reducePow, Nat.reduceSub, Int.cast_ofNat_Int] at hm2
      simp only [BitVec.toNat_and, Nat.reducePow, Nat.reduceSub, Int.cast_ofNat_Int] at hm
      simp (maxSteps := 2000000) -implicitDefEqProofs [-getElem?_pos, List.getElem?_cons_zero, List.getElem?_cons_succ, go_sem, eqV, plen, loadV, storeV, vaO, tyO, Va.pay, Ty.pay, kv, wu, hm, hm2, hF, assignV, show IntKind.u64.bits = 64 from rfl, show IntKind.i64.wrap 16 = 16 from rfl, show IntKind.u64.wrap 16 = 16 from rfl, show IntKind.u64.wrap 65536 = 65536 from rfl, show IntKind.u64.wrap 65535 = 65535 from rfl]
    · have hm := and_mask (x := x) (k := 32) hult (by omega)
      rw [show (256 : Nat) ^ 4 = 2 ^ 32 from rfl] at hF
      generalize x % 2 ^ 32 = z at *
      simp only [Nat.reducePow, Nat.reduceSub, Int.cast_ofNat_Int] at hF
      have hm2 := hm
      simp only [go_sem, Nat.reducePow, Nat.reduceSub, Int.cast_ofNat_Int] at hm2
      simp only [BitVec.toNat_and, Nat.reducePow, Nat.reduceSub, Int.cast_ofNat_Int] at hm
      simp (maxSteps := 2000000) -implicitDefEqProofs [-getElem?_pos, List.getElem?_cons_zero, List.getElem?_cons_succ, go_sem, eqV, plen, loadV, storeV, vaO, tyO, Va.pay, Ty.pay, kv, wu, hm, hm2, hF, assignV, show IntKind.u64.bits = 64 from rfl, show IntKind.i64.wrap 32 = 32 from rfl, show IntKind.u64.wrap 32 = 32 from rfl, show IntKind.u64.wrap 4294967296 = 4294967296 from rfl, show IntKind.u64.wrap 4294967295 = 4294967295 from rfl]
    · rw [show x % 256 ^ 8 = x from Nat.mod_eq_of_lt (by simpa using hult)] at hF
      simp only [Int.cast_ofNat_Int] at hF
      simp (maxSteps := 2000000) -implicitDefEqProofs [-getElem?_pos, List.getElem?_cons_zero, List.getElem?_cons_succ, go_sem, eqV, plen, loadV, storeV, vaO, tyO, Va.pay, Ty.pay, kv, wu, hF, assignV]
  · rw [if_neg (by omega), if_pos (by omega)]
    obtain ⟨s1, s8⟩ := fs (by omega)
    have hxl := fb (by omega)
    have hrs := rsize_eq (t := t.t) (by omega)
    rw [hrs]
    obtain ⟨ob1, hw1, hF⟩ := rfx_ev (H := [some (vaO v), some (tyO t), some nilB]) (a := .ro c (.pb b) 1) (b := b) (x := v.b) (n := sizeN t.t) (N := sizeN t.t) (Byt.ro (.inl rfl) hc) rfl (by omega) s1 s8 hxl
    refine Tells.of (o := ⟨.ret, [(6, .sl 3 0 (b.length + sizeN t.t) 0), (7, .int .i64 0)], [some (vaO v), some (tyO t), some nilB, some ob1]⟩) ?_ ⟨rfl, 3, 0, ob1, by simp [getF, leB_len], rfl, rfl, hw1⟩
    apply Run.seq_out (hne := by simp)
    simp only [vaO, tyO, Va.pay, Ty.pay] at hF
    rw [kv] at hF
    clear hw1 hxl hrs s1 s8 fs fb
    generalize sizeN t.t = n at *
    generalize b.length = bl at *
    refine ⟨0, ?_⟩
    simp (maxSteps := 2000000) -implicitDefEqProofs [-getElem?_pos, List.getElem?_cons_zero, List.getElem?_cons_succ, go_sem, eqV, plen, loadV, storeV, vaO, tyO, Va.pay, Ty.pay, kv, hF, assignV]
  · rw [if_neg (by omega), if_pos (by omega)]
    obtain ⟨s1, s8⟩ := fs (by omega)
    have hxl := fb (by omega)
    have hrs := rsize_eq (t := t.t) (by omega)
    rw [hrs]
    obtain ⟨ob1, hw1, hF⟩ := rfx_ev (H := [some (vaO v), some (tyO t), some nilB]) (a := .ro c (.pb b) 1) (b := b) (x := v.b) (n := sizeN t.t) (N := sizeN t.t) (Byt.ro (.inl rfl) hc) rfl (by omega) s1 s8 hxl
    refine Tells.of (o := ⟨.ret, [(6, .sl 3 0 (b.length + sizeN t.t) 0), (7, .int .i64 0)], [some (vaO v), some (tyO t), some nilB, some ob1]⟩) ?_ ⟨rfl, 3, 0, ob1, by simp [getF, leB_len], rfl, rfl, hw1⟩
    apply Run.seq_out (hne := by simp)
    simp only [vaO, tyO, Va.pay, Ty.pay] at hF
    rw [kv] at hF
    clear hw1 hxl hrs s1 s8 fs fb
    generalize sizeN t.t = n at *
    generalize b.length = bl at *
    refine ⟨0, ?_⟩
    simp (maxSteps := 2000000) -implicitDefEqProofs [-getElem?_pos, List.getElem?_cons_zero, List.getElem?_cons_succ, go_sem, eqV, plen, loadV, storeV, vaO, tyO, Va.pay, Ty.pay, kv, hF, assignV]
  · rw [if_neg (by omega), if_pos (by omega)]
    obtain ⟨s1, s8⟩ := fs (by omega)
    have hxl := fb (by omega)
    have hrs := rsize_eq (t := t.t) (by omega)
    rw [hrs]
    obtain ⟨ob1, hw1, hF⟩ := rfx_ev (H := [some (vaO v), some (tyO t), some nilB]) (a := .ro c (.pb b) 1) (b := b) (x := v.b) (n := sizeN t.t) (N := sizeN t.t) (Byt.ro (.inl rfl) hc) rfl (by omega) s1 s8 hxl
    refine Tells.of (o := ⟨.ret, [(6, .sl 3 0 (b.length + sizeN t.t) 0), (7, .int .i64 0)], [some (vaO v), some (tyO t), some nilB, some ob1]⟩) ?_ ⟨rfl, 3, 0, ob1, by simp [getF, leB_len], rfl, rfl, hw1⟩
    apply Run.seq_out (hne := by simp)
    simp only [vaO, tyO, Va.pay, Ty.pay] at hF
    rw [kv] at hF
    clear hw1 hxl hrs s1 s8 fs fb
    generalize sizeN t.t = n at *
    generalize b.length = bl at *
    refine ⟨0, ?_⟩
    simp (maxSteps := 2000000) -implicitDefEqProofs [-getElem?_pos, List.getElem?_cons_zero, List.getElem?_cons_succ, go_sem, eqV, plen, loadV, storeV, vaO, tyO, Va.pay, Ty.pay, kv, hF, assignV]
  · rw [if_neg (by omega), if_neg (by omega), if_pos (by omega)]
    obtain ⟨ob1, hw1, hF⟩ := mt_ev (H := [some (vaO v), some (tyO t), some nilB]) (a := .ro c (.pb b) 1) (b := b) (w := v.w) (Byt.ro (.inl rfl) hc) (by omega) ht (ff (by omega))
    refine Tells.of (o := ⟨.ret, [(6, .sl 3 0 (b ++ whB v.w t.t).length 0), (7, .int .i64 0)], [some (vaO v), some (tyO t), some nilB, some ob1]⟩) ?_ ⟨rfl, 3, 0, ob1, rfl, rfl, rfl, hw1⟩
    apply Run.seq_out (hne := by simp)
    simp only [vaO, tyO, Va.pay, Ty.pay, Wh.pay] at hF
    rw [kv] at hF
    generalize (b ++ whB v.w t.t).length = m at *
    generalize rsizeN t.t = n at *
    refine ⟨0, ?_⟩
    simp (maxSteps := 2000000) -implicitDefEqProofs [-getElem?_pos, List.getElem?_cons_zero, List.getElem?_cons_succ, go_sem, eqV, plen, loadV, storeV, vaO, tyO, Va.pay, Ty.pay, kv, mkWh, hF, assignV]
  · rw [if_neg (by omega), if_neg (by omega), if_pos (by omega)]
    obtain ⟨ob1, hw1, hF⟩ := mt_ev (H := [some (vaO v), some (tyO t), some nilB]) (a := .ro c (.pb b) 1) (b := b) (w := v.w) (Byt.ro (.inl rfl) hc) (by omega) ht (ff (by omega))
    refine Tells.of (o := ⟨.ret, [(6, .sl 3 0 (b ++ whB v.w t.t).length 0), (7, .int .i64 0)], [some (vaO v), some (tyO t), some nilB, some ob1]⟩) ?_ ⟨rfl, 3, 0, ob1, rfl, rfl, rfl, hw1⟩
    apply Run.seq_out (hne := by simp)
    simp only [vaO, tyO, Va.pay, Ty.pay, Wh.pay] at hF
    rw [kv] at hF
    generalize (b ++ whB v.w t.t).length = m at *
    generalize rsizeN t.t = n at *
    refine ⟨0, ?_⟩
    simp (maxSteps := 2000000) -implicitDefEqProofs [-getElem?_pos, List.getElem?_cons_zero, List.getElem?_cons_succ, go_sem, eqV, plen, loadV, storeV, vaO, tyO, Va.pay, Ty.pay, kv, mkWh, hF, assignV]
  · rw [if_neg (by omega), if_neg (by omega), if_neg (by omega), if_pos kv]
    obtain ⟨ob1, hw1, hA⟩ := rappendText_ev (H := [some (vaO v), some (tyO t), some nilB]) (a := .ro c (.pb b) 1) (b := b) (s := v.t) (Byt.ro (.inl rfl) hc) (by omega) (by have := fl kv; omega)
    refine Tells.of (o := ⟨.ret, [(6, .sl 3 0 (b ++ aT v.t).length 0), (7, .int .i64 0)], [some (vaO v), some (tyO t), some nilB, some ob1]⟩) ?_ ⟨rfl, 3, 0, ob1, rfl, rfl, rfl, hw1⟩
    apply Run.seq_out (hne := by simp)
    simp only [vaO, tyO, Va.pay, Ty.pay] at hA
    rw [kv] at hA
    generalize (b ++ aT v.t).length = m at *
    generalize rsizeN t.t = n at *
    refine ⟨0, ?_⟩
    simp (maxSteps := 2000000) -implicitDefEqProofs [-getElem?_pos, List.getElem?_cons_zero, List.getElem?_cons_succ, go_sem, eqV, plen, loadV, storeV, vaO, tyO, Va.pay, Ty.pay, kv, hA, assignV]

end

theorem rvappend_ev {H : AM.Heap} {a : AV} {b : List UInt8} {v : Va} {t : Ty} (h : Byt H a b) (hb : b.length ≤ 100000) (ht : t.t < 256) (hvb : v.b < 18446744073709551616) :
    ∃ ob, Rw (.pb (apV b v t).1) 0 ob ∧ evT X 25 [a, .agg v.pay, .agg t.pay] H = some (.tup [.sl H.length 0 (apV b v t).1.length 0, .int .i64 (apV b v t).2], H ++ [some ob]) := by
  obtain ⟨c, p, xl, hp, hc, hx'⟩ := args_byt (C := X) (f := 25) (i := 0) rfl h (args_va (f := 25) (i := 1) (v := v) (args_ty (i := 2) (t := t) (args_nil 3)))
  obtain ⟨code, hcode, hr⟩ := rvappend_code c b v t hc hb ht hvb
  obtain ⟨ob, q1, q2⟩ := Ev1.newB (H := H) (n := (apV b v t).1.length) (l := (apV b v t).1) (rest := [.int .i64 (apV b v t).2]) (evT_below X) Try.func25 hcode hx' (by simp [Va.pay, Ty.pay, idsL, ids, hp.ids]) (by simp [gtag]) rfl rfl rfl (by
    obtain ⟨o, ⟨he, o1, g, ob, q1, q2, q3, q4⟩, hrun⟩ := hr
    exact ⟨o, ⟨he, o1, g, ob, by show some [getF o.fr 6, getF o.fr 7] = _; rw [q1, q2], q3, q4⟩, by rw [par25, coB hp]; exact hrun⟩)
  exact ⟨ob, q1, evT_eq q2⟩

end Go.Proofs.Ytafdnpcamepbmaa

/- Walks: rows of values, of types, as arguments; what they are called with; lives. -/
namespace Go.Proofs.Ytafdnpcamepbmaa
open Go.AM
set_option linter.unusedSimpArgs false
set_option linter.unusedVariables false

theorem va_tags : ∀ l : List Va, idsL (l.map Va.pay) = [] ∧ tagsL (l.map Va.pay) = []
  | [] => ⟨rfl, rfl⟩
  | p :: l => by simp [idsL, tagsL, va_tags l, Va.pay, ids, tags]
theorem ty_tags : ∀ l : List Ty, idsL (l.map Ty.pay) = [] ∧ tagsL (l.map Ty.pay) = []
  | [] => ⟨rfl, rfl⟩
  | p :: l => by simp [idsL, tagsL, ty_tags l, Ty.pay, ids, tags]

theorem emVa0 : emptyRow X 44 = .pr 12 [] := by kernel_rfl

theorem undVs : und X 23 = .slice 44 := by kernel_rfl

theorem emTy0 : emptyRow X 46 = .pr 2 [] := by kernel_rfl

theorem undTs : und X 24 = .slice 46 := by kernel_rfl

/-- a payload of values, of types -/
def PV (p : AV) (l : List Va) : Prop := p = .pr 12 (l.map Va.pay) ∨ (p = .pn ∧ l = [])
def PT (p : AV) (l : List Ty) : Prop := p = .pr 2 (l.map Ty.pay) ∨ (p = .pn ∧ l = [])
theorem PV.ids {p : AV} {l : List Va} (h : PV p l) : AM.ids p = [] := by rcases h with rfl | ⟨rfl, _⟩ <;> simp [AM.ids, va_tags l]
theorem PT.ids {p : AV} {l : List Ty} (h : PT p l) : AM.ids p = [] := by rcases h with rfl | ⟨rfl, _⟩ <;> simp [AM.ids, ty_tags l]
theorem coV {p : AV} {l : List Va} {c t : Nat} {r : List AV} {ts : List TypeId} (h : PV p l) : coerce X (.ro c p t :: r) (23 :: ts) = .ro c (.pr 12 (l.map Va.pay)) t :: coerce X r ts := by
  rcases h with rfl | ⟨rfl, rfl⟩ <;> simp [coerce, undVs, emVa0]

theorem coT {p : AV} {l : List Ty} {c t : Nat} {r : List AV} {ts : List TypeId} (h : PT p l) : coerce X (.ro c p t :: r) (24 :: ts) = .ro c (.pr 2 (l.map Ty.pay)) t :: coerce X r ts := by
  rcases h with rfl | ⟨rfl, rfl⟩ <;> simp [coerce, undTs, emTy0]

theorem coerce_nil : coerce X [] [] = [] := rfl

/-- a row of values that reads so -/
abbrev RoV (H : AM.Heap) (a : AV) (l : List Va) : Prop := RoRow H a 12 (l.map Va.pay)
abbrev RoT (H : AM.Heap) (a : AV) (l : List Ty) : Prop := RoRow H a 2 (l.map Ty.pay)
theorem args_v {f i : Nat} {H : AM.Heap} {a : AV} {l : List Va} {r ys : List AV} {xs : List Lent} (hrw : X.rw f i = false) (h : RoV H a l) (hr : lendArgs X f H (i + 1) r = some (ys, xs)) :
    ∃ c p x, PV p l ∧ (c = 0 → l = []) ∧ lendArgs X f H i (a :: r) = some (.ro c p (i + 1) :: ys, x :: xs) := by
  obtain ⟨c, p, x, hp, hc, h⟩ := args_row hrw h hr
  refine ⟨c, p, x, ?_, fun h => List.map_eq_nil_iff.1 (hc h), h⟩
  rcases hp with h | ⟨h, h2⟩
  · exact .inl h
  · exact .inr ⟨h, List.map_eq_nil_iff.1 h2⟩
theorem args_t {f i : Nat} {H : AM.Heap} {a : AV} {l : List Ty} {r ys : List AV} {xs : List Lent} (hrw : X.rw f i = false) (h : RoT H a l) (hr : lendArgs X f H (i + 1) r = some (ys, xs)) :
    ∃ c p x, PT p l ∧ (c = 0 → l = []) ∧ lendArgs X f H i (a :: r) = some (.ro c p (i + 1) :: ys, x :: xs) := by
  obtain ⟨c, p, x, hp, hc, h⟩ := args_row hrw h hr
  refine ⟨c, p, x, ?_, fun h => List.map_eq_nil_iff.1 (hc h), h⟩
  rcases hp with h | ⟨h, h2⟩
  · exact .inl h
  · exact .inr ⟨h, List.map_eq_nil_iff.1 h2⟩

theorem texts_ev (H : AM.Heap) : evT X 18 [] H = some (.agg tyVS.pay, H) := by
  have h := Ev1.tried (T := fun _ _ _ => none) (C := X) Below.none (n := 100) (f := 18) (args := []) (v := .agg tyVS.pay) (N := []) (by kernel_rfl) H
  have e : shiftV H.length (.agg tyVS.pay) = .agg tyVS.pay := ren_flat _ rfl (fun _ _ => rfl)
  rw [e] at h
  exact evT_eq (by simpa [shiftH] using h)

theorem plain_ev (H : AM.Heap) : evT X 22 [] H = some (.agg tyVS.pay, H) := by
  have h := Ev1.tried (T := fun _ _ _ => none) (C := X) Below.none (n := 100) (f := 22) (args := []) (v := .agg tyVS.pay) (N := []) (by kernel_rfl) H
  have e : shiftV H.length (.agg tyVS.pay) = .agg tyVS.pay := ren_flat _ rfl (fun _ _ => rfl)
  rw [e] at h
  exact evT_eq (by simpa [shiftH] using h)

/-- a value as it may come -/
def Va.okR (v : Va) : Prop := v.b < 18446744073709551616 ∧ -9223372036854775808 ≤ v.i ∧ v.i < 9223372036854775808

theorem txR_take {l : List Va} {i : Nat} {v : Va} (h : l[i]? = some v) : txR (l.take (i + 1)) = txR (l.take i) ++ txV v := take_cat txV h
theorem txR_le (l : List Va) (i : Nat) : (txR (l.take i)).length ≤ (txR l).length := by
  conv => rhs; rw [← List.take_append_drop i l]
  unfold txR
  rw [List.flatMap_append, List.length_append]
  omega

end Go.Proofs.Ytafdnpcamepbmaa

/- Walks: the same values; a place among n. -/
namespace Go.Proofs.Ytafdnpcamepbmaa
open Go.AM
set_option linter.unusedSimpArgs false
set_option linter.unusedVariables false

theorem vvEqF (a3 a4 a5 a8 a9 a10 a11 a12 a13 a14 : Int) (a7 : Bool) (a6 : List UInt8) (xo yo : Operand) (H : AM.Heap) :
    eqV X H 44 (.agg (.pc [.int .i64 a3, .int .i64 a4, .int .u64 a5, .str a6, .bool a7, .int .i64 a8, .int .i64 a9, .int .i64 a10, .int .i64 a11, .int .i64 a12, .int .i64 a13, .int .i64 a14])) (.agg (.pc [.int .i64 a3, .int .i64 a4, .int .u64 a5, .str a6, .bool a7, .int .i64 a8, .int .i64 a9, .int .i64 a10, .int .i64 a11, .int .i64 a12, .int .i64 a13, .int .i64 a14])) xo yo =
      some (a3 == a3 && (a4 == a4 && (a5 == a5 && (a6 == a6 && ((a7 == a7 && (a8 == a8 && (a9 == a9 && (a10 == a10 && (a11 == a11 && (a12 == a12 && (a13 == a13 && (a14 == a14 && true)))))))) && true))))) := by kernel_rfl
theorem eqVv (p : Va) (xo yo : Operand) (H : AM.Heap) : eqV X H 44 (.agg p.pay) (.agg p.pay) xo yo = some true := by
  unfold Va.pay
  rw [vvEqF]
  simp

section
variable (c c2 : Nat) (l : List Va)

def spFr (i : Nat) : AM.Frame := [(0, .ro c (.pr 12 (l.map Va.pay)) 1), (1, .ro c2 (.pr 12 (l.map Va.pay)) 2), (5, .int .i64 (i : Nat))]

set_option maxRecDepth 100000 in
set_option maxHeartbeats 4000000 in
theorem sp_round (i : Nat) (p : Va) (hl : l.length ≤ 100000000) (hp : l[i]? = some p) :
    ∃ code, ((Try.f14.body).bind (codeAt [1, 1, 0, 1, 0, 0])) = some code ∧ Run X (evT X) 14 0 code (spFr c c2 l i) [] ⟨.normal, spFr c c2 l (i + 1), []⟩ := by
  refine ⟨_, rfl, ?_⟩
  have hlt := at_lt hp
  have hiI : (i : Int) < (l.length : Int) := by omega
  have w1 : IntKind.i64.wrap ((i : Int) + 1) = ((i + 1 : Nat) : Int) := by rw [wrap_i64 (by omega) (by omega)]; omega
  have hrow : (l.map Va.pay)[i]? = some p.pay := by rw [List.getElem?_map, hp]; rfl
  have hL : (l.map Va.pay).length = l.length := List.length_map _
  have hE := fun xo yo => eqVv p xo yo []
  unfold spFr
  generalize l.map Va.pay = L at *
  simp only [Va.pay] at hrow hE
  refine ⟨0, ?_⟩
  simp (maxSteps := 2000000) -implicitDefEqProofs [-getElem?_pos, List.getElem?_cons_zero, List.getElem?_cons_succ, go_sem, eqV, plen, loadV, storeV, hlt, hiI, w1, hL, hrow, hE, mkVa, -eqV, retagL, retag, retagP, flatCells, splice, scalars, scalar]

set_option maxRecDepth 100000 in
set_option maxHeartbeats 4000000 in
theorem sp_code (hl : l.length ≤ 100000000) : ∃ code, Try.f14.body = some code ∧
    Tells (Rets fun fr H => getF fr 4 = .bool true) X (evT X) 14 0 code [(0, .ro c (.pr 12 (l.map Va.pay)) 1), (1, .ro c2 (.pr 12 (l.map Va.pay)) 2)] [] := by
  refine ⟨_, rfl, ?_⟩
  have hL : (l.map Va.pay).length = l.length := List.length_map _
  apply Tells.seq (fr' := [(0, .ro c (.pr 12 (l.map Va.pay)) 1), (1, .ro c2 (.pr 12 (l.map Va.pay)) 2)]) (H' := [])
  · generalize l.map Va.pay = L at *
    (refine ⟨0, ?_⟩; simp (maxSteps := 2000000) -implicitDefEqProofs [-getElem?_pos, List.getElem?_cons_zero, List.getElem?_cons_succ, go_sem, eqV, plen, loadV, storeV])
  apply Tells.assoc
  apply Tells.seq (fr' := [(0, .ro c (.pr 12 (l.map Va.pay)) 1), (1, .ro c2 (.pr 12 (l.map Va.pay)) 2), (10, .bool false)]) (H' := [])
  · generalize l.map Va.pay = L at *
    (refine ⟨0, ?_⟩; simp (maxSteps := 2000000) -implicitDefEqProofs [-getElem?_pos, List.getElem?_cons_zero, List.getElem?_cons_succ, go_sem, eqV, plen, loadV, storeV])
  apply Tells.seq (fr' := [(0, .ro c (.pr 12 (l.map Va.pay)) 1), (1, .ro c2 (.pr 12 (l.map Va.pay)) 2), (10, .bool false)]) (H' := [])
  · exact condF (by simp [evalO, getF]) ⟨0, rfl⟩
  apply Tells.assoc
  apply Tells.seq (fr' := spFr c c2 l 0) (H' := [])
  · unfold spFr
    generalize l.map Va.pay = L at *
    (refine ⟨0, ?_⟩; simp (maxSteps := 2000000) -implicitDefEqProofs [-getElem?_pos, List.getElem?_cons_zero, List.getElem?_cons_succ, go_sem, eqV, plen, loadV, storeV])
  apply Tells.blockThen (P := fun fr H => fr = spFr c c2 l l.length ++ [(14, .bool false)] ∧ H = [])
  · refine Tells.loopP (fun k fr H => ∃ i, k = l.length - i ∧ i ≤ l.length ∧ fr = spFr c c2 l i ∧ H = []) ?_ (k := l.length) ⟨0, rfl, by omega, rfl, rfl⟩
    rintro k fr H ⟨i, rfl, hi, rfl, rfl⟩
    by_cases hin : i = l.length
    · subst hin
      refine Tells.of (o := ⟨.exit 0, spFr c c2 l l.length ++ [(14, .bool false)], []⟩) ⟨0, ?_⟩ (.inr ⟨by simp, .inl ⟨rfl, rfl, rfl⟩⟩)
      unfold spFr
      generalize l.map Va.pay = L at *
      simp (maxSteps := 2000000) -implicitDefEqProofs [-getElem?_pos, List.getElem?_cons_zero, List.getElem?_cons_succ, go_sem, eqV, plen, loadV, storeV, hL]
    · obtain ⟨p, hp⟩ : ∃ p, l[i]? = some p := ⟨_, List.getElem?_eq_getElem (by omega)⟩
      exact Tells.of (piece (sp_round c c2 l i p hl hp) _ rfl) (.inl ⟨rfl, l.length - (i + 1), by omega, i + 1, rfl, by omega, rfl, rfl⟩)
  rintro fr H ⟨rfl, rfl⟩
  refine Tells.of (o := ⟨.ret, [(4, .bool true)], []⟩) ⟨0, ?_⟩ ⟨rfl, rfl⟩
  unfold spFr
  generalize l.map Va.pay = L at *
  simp (maxSteps := 2000000) -implicitDefEqProofs [-getElem?_pos, List.getElem?_cons_zero, List.getElem?_cons_succ, go_sem, eqV, plen, loadV, storeV]

end

theorem same_ev {H : AM.Heap} {a a2 : AV} {l : List Va} (h : RoV H a l) (h2 : RoV H a2 l) (hl : l.length ≤ 100000000) :
    evT X 14 [a, a2] H = some (.bool true, H) := by
  obtain ⟨c2, p2, x2, hp2, _, hx2⟩ := args_v (f := 14) (i := 1) rfl h2 (args_nil 2)
  obtain ⟨c, p, x, hp, _, hx⟩ := args_v (f := 14) (i := 0) rfl h hx2
  obtain ⟨code, hcode, o, ⟨he, h4⟩, hr⟩ := sp_code c c2 l hl
  exact evT_eq (Ev1.toldP (l := [.bool true]) (evT_below X) Try.func14 hcode hx (by simp [idsL, ids, hp.ids, hp2.ids]) (by simp [gtag]) rfl rfl rfl ⟨o, ⟨he, by show some [getF o.fr 4] = _; rw [h4]⟩, by rw [par14, coV hp, coV hp2, coerce_nil]; exact hr⟩)

/-- a place among n -/
def pkI (x n : Int) : Int := if Int.tmod x n < 0 then Int.tmod x n + n else Int.tmod x n
theorem pk_in {x n : Int} (h : 0 < n) : 0 ≤ pkI x n ∧ pkI x n < n := by
  have h1 := Int.lt_tmod_of_pos x h
  have h2 := Int.tmod_lt_of_pos x h
  unfold pkI
  split <;> omega

set_option maxRecDepth 100000 in
theorem pick_code (x : Int) (n : Nat) (h0 : 0 < n) (hn : n ≤ 100000000) : ∃ code, Try.f15.body = some code ∧
    Tells (Rets fun fr H => getF fr 4 = .int .i64 (pkI x (n : Nat))) X (evT X) 15 0 code [(0, .int .i64 x), (1, .int .i64 (n : Nat))] [] := by
  refine ⟨_, rfl, ?_⟩
  have hb1 := Int.lt_tmod_of_pos x (show (0 : Int) < (n : Nat) by omega)
  have hb2 := Int.tmod_lt_of_pos x (show (0 : Int) < (n : Nat) by omega)
  have hz : ¬ ((n : Int) = 0) := by omega
  have hz2 : ¬ (n = 0) := by omega
  unfold pkI
  generalize hr : Int.tmod x (n : Int) = r at *
  have w1 : IntKind.i64.wrap r = r := wrap_i64 (by omega) (by omega)
  have w2 : r < 0 → IntKind.i64.wrap (r + (n : Int)) = r + (n : Int) := fun h => wrap_i64 (by omega) (by omega)
  by_cases hn : r < 0
  · rw [if_pos hn]
    have w2 := w2 hn
    refine Tells.of (o := ⟨.ret, [(4, .int .i64 (r + (n : Nat)))], []⟩) ⟨0, ?_⟩ ⟨rfl, rfl⟩
    simp (maxSteps := 2000000) -implicitDefEqProofs [-getElem?_pos, List.getElem?_cons_zero, List.getElem?_cons_succ, go_sem, eqV, plen, loadV, storeV, hz, hz2, hr, w1, hn, w2]
  · rw [if_neg hn]
    refine Tells.of (o := ⟨.ret, [(4, .int .i64 r)], []⟩) ⟨0, ?_⟩ ⟨rfl, rfl⟩
    simp (maxSteps := 2000000) -implicitDefEqProofs [-getElem?_pos, List.getElem?_cons_zero, List.getElem?_cons_succ, go_sem, eqV, plen, loadV, storeV, hz, hz2, hr, w1, hn]
theorem pick_ev {H : AM.Heap} (x : Int) (n : Nat) (h0 : 0 < n) (hn : n ≤ 100000000) : evT X 15 [.int .i64 x, .int .i64 (n : Nat)] H = some (.int .i64 (pkI x (n : Nat)), H) := by
  obtain ⟨code, hcode, o, ⟨he, h4⟩, hr⟩ := pick_code x n h0 hn
  exact evT_eq (Ev1.toldP (l := [.int .i64 (pkI x (n : Nat))]) (evT_below X) Try.func15 hcode (args_flat rfl rfl (args_flat rfl rfl (args_nil 2))) rfl (by simp [gtag]) rfl rfl rfl ⟨o, ⟨he, by show some [getF o.fr 4] = _; rw [h4]⟩, by rw [par15]; exact hr⟩)

theorem slOwn {H : AM.Heap} {o N k : Nat} {ob : AM.Obj} {l : List UInt8} (ho : H[o]? = some (some ob)) (h : Rw (.pb l) 0 ob) (hN : N = l.length) (hk : k ≤ l.length) : sliceV X H 22 (.sl o 0 N 0) none (some (.int .i64 (k : Nat))) = some (.sl o 0 k 0) := by
  subst hN
  have hkl : (k : Int) ≤ (l.length : Int) := by omega
  simp [sliceV, bound, live, ho, h.g, h.p, pesz, plen, hkl, hk]

end Go.Proofs.Ytafdnpcamepbmaa

/- Walks: a text row read. -/
namespace Go.Proofs.Ytafdnpcamepbmaa
open Go.AM
set_option linter.unusedSimpArgs false
set_option linter.unusedVariables false

/-- an empty slice of values -/
def nilV : AM.Obj := ⟨.pr 12 [], 0, .none, 0, true, false, 0⟩
theorem nilV_rw : Rw (.pr 12 []) 0 nilV := ⟨rfl, rfl, rfl, rfl, rfl⟩
theorem emV : rowOf (emptyRow X 44) .none 0 = nilV := by kernel_rfl
theorem noslVa : noSl X 6 44 = true := by kernel_rfl
theorem bsVa (H : AM.Heap) (v : Va) : buildSliceV X H 23 1 [(0, .agg v.pay)] = some (.ro 1 (.pr 12 [v.pay]) 0, H) := by
  obtain ⟨k, i, b, s, ⟨neg, y, mo, d, h, mi, sc, us⟩⟩ := v
  kernel_rfl

theorem app_va {H : AM.Heap} {o i : Nat} {ob : AM.Obj} {a : List Va} (v : Va) (hi : a.length = i) (h9 : i ≤ 9000000) (h : H[o]? = some (some ob)) (hw : Rw (.pr 12 (a.map Va.pay)) i ob) :
    ∃ ob', Rw (.pr 12 ((a ++ [v]).map Va.pay)) (i + 1) ob' ∧ appendV X H 23 (.sl o 0 i i) (.ro 1 (.pr 12 [v.pay]) 0) = some (.sl o 0 (i + 1) (i + 1), upd H o (some ob')) := by
  have hlen : (a.map Va.pay).length = i := by rw [List.length_map, hi]
  obtain ⟨ob', hw', hA⟩ := app_rows (C := X) (T := 23) (e := 44) (es := 12) (H := H) (o := o) (m := [v.pay]) (src := .ro 1 (.pr 12 [v.pay]) 0) (by simp) (by simp) (by omega) (by simp) (by simp) h hw rfl (by rw [hlen]; simp; omega)
  rw [hlen] at hA
  exact ⟨ob', by rw [List.map_append]; exact hw', hA⟩

section
variable (c : Nat) (n : Nat)

def ytFr (i : Nat) (r : List UInt8) : AM.Frame := [(0, .ro c (.pb r) 1), (6, .sl 1 0 i i), (16, .int .i64 (n : Nat)), (17, .int .i64 (i : Nat))]
def ytHp (a : List Va) (H : AM.Heap) : Prop := ∃ ob, H[1]? = some (some ob) ∧ Rw (.pr 12 (a.map Va.pay)) a.length ob

set_option maxRecDepth 100000 in
set_option maxHeartbeats 4000000 in
/-- nothing, put behind the others -/
theorem yt_nil (r : List UInt8) (y : UInt8) (a : List Va) (H : AM.Heap) (ha : a.length ≤ 9000000) (hc : c ≠ 0) (hH : ytHp a H) :
    ∃ H', ytHp (a ++ [({} : Va)]) H' ∧ H'.length = H.length ∧ ∃ code, ((Try.f13.body).bind (codeAt [1, 1, 1, 0, 1, 0, 0, 1, 1, 0, 0, 0, 1, 0, 0])) = some code ∧ Run X (evT X) 13 0 code (ytFr c n a.length (y :: r) ++ [(27, .bool true)]) H ⟨.normal, [(0, .ro c (.pb r) 1), (6, .sl 1 0 (a.length + 1) (a.length + 1)), (16, .int .i64 (n : Nat)), (17, .int .i64 (a.length : Nat))], H'⟩ := by
  obtain ⟨ob, h1, hw⟩ := hH
  obtain ⟨ob', hw', hA⟩ := app_va ({} : Va) rfl ha h1 hw
  have hlt := at_lt h1
  refine ⟨upd H 1 (some ob'), ⟨ob', at_set h1, by simpa using hw'⟩, by simp [upd], _, rfl, ?_⟩
  have hbs := fun H => bsVa H ({} : Va)
  have hbv := bvV0
  have hsl := fun H => slFrom (c := c) (t := 1) (n := 1) (b := y :: r) (fun h => absurd h hc) (by simp) H
  simp only [List.drop_succ_cons, List.drop_zero, Int.cast_ofNat_Int] at hsl
  unfold ytFr
  have hwg := hw.g
  have hwi := hw.ids
  simp only [Va.pay, Int.cast_ofNat_Int] at hA hbs hbv
  generalize a.length = i at *
  apply Run.dy (by simp) keep13_7 (by simp)
  · (conv => lhs; simp (maxSteps := 2000000) -implicitDefEqProofs [-getElem?_pos, List.getElem?_cons_zero, List.getElem?_cons_succ, go_sem, eqV, plen, loadV, storeV, runD, out1, markOf, freeO, quietO, pushes, isAssign, calledV, touched, mentioned, opVals, touchCall, mentionCall, idsAt, Op.operands, ids, idsL, lendArgs, lendV, lend1, lendL, eqH_self, hbv, hbs, hA, hsl, assignV, noslVa])
    rfl
  · refine marksOk_of (ps := [(0, 1), (0, 2), (0, 4), (1, 4), (2, 4), (3, 4), (0, 5), (1, 5), (2, 5), (3, 5), (4, 6), (5, 6)]) (by kernel_rfl) ?_
    simp [bearP, bear, disjoint, lookOk]
  · rfl

set_option maxRecDepth 100000 in
set_option maxHeartbeats 4000000 in
/-- a text, put behind the others -/
theorem yt_val (r s : List UInt8) (k : Nat) (a : List Va) (H : AM.Heap) (ha : a.length ≤ 9000000) (hc : c = 0 → r = []) (hk : k ≤ r.length) (hH : ytHp a H) :
    ∃ H', ytHp (a ++ [({ k := 7, t := s } : Va)]) H' ∧ H'.length = H.length ∧ ∃ code, ((Try.f13.body).bind (codeAt [1, 1, 1, 0, 1, 0, 0, 1, 1, 0, 0, 1, 1, 1, 1])) = some code ∧ Run X (evT X) 13 0 code [(0, .ro c (.pb r) 1), (6, .sl 1 0 a.length a.length), (7, .str s), (8, .int .i64 (k : Nat)), (16, .int .i64 (n : Nat)), (17, .int .i64 (a.length : Nat)), (45, .bool false)] H ⟨.normal, [(0, .ro c (.pb (r.drop k)) 1), (6, .sl 1 0 (a.length + 1) (a.length + 1)), (16, .int .i64 (n : Nat)), (17, .int .i64 (a.length : Nat))], H'⟩ := by
  obtain ⟨ob, h1, hw⟩ := hH
  obtain ⟨ob', hw', hA⟩ := app_va ({ k := 7, t := s } : Va) rfl ha h1 hw
  have hlt := at_lt h1
  refine ⟨upd H 1 (some ob'), ⟨ob', at_set h1, by simpa using hw'⟩, by simp [upd], _, rfl, ?_⟩
  have hbs := fun H => bsVa H ({ k := 7, t := s } : Va)
  have hbv := bvVt 7 s
  have hsl := fun H => slFrom (c := c) (t := 1) (n := k) (b := r) hc hk H
  simp only [Va.pay, Int.cast_ofNat_Int] at hA hbs hbv
  generalize a.length = i at *
  apply Run.dy (by simp) keep13_13 (by simp)
  · (conv => lhs; simp (maxSteps := 2000000) -implicitDefEqProofs [-getElem?_pos, List.getElem?_cons_zero, List.getElem?_cons_succ, go_sem, eqV, plen, loadV, storeV, runD, out1, markOf, freeO, quietO, pushes, isAssign, calledV, touched, mentioned, opVals, touchCall, mentionCall, idsAt, Op.operands, ids, idsL, lendArgs, lendV, lend1, lendL, eqH_self, hbv, hbs, hA, hsl, assignV, noslVa])
    rfl
  · refine marksOk_of (ps := [(0, 1), (0, 2), (0, 3), (0, 5), (1, 5), (2, 5), (3, 5), (4, 5), (0, 6), (1, 6), (2, 6), (3, 6), (4, 6), (5, 6), (0, 7), (1, 7), (2, 7), (3, 7), (4, 7), (5, 8), (6, 8), (7, 8)]) (by kernel_rfl) ?_
    simp [bearP, bear, disjoint, lookOk]
  · rfl

/-- how ReadText tells of a reading -/
def ytQ (x : List Va × Int) (fr : AM.Frame) (H : AM.Heap) : Prop := ∃ o g ob, getF fr 4 = .sl o 0 x.1.length g ∧ getF fr 5 = .int .i64 x.2 ∧ H[o]? = some (some ob) ∧ Rw (.pr 12 (x.1.map Va.pay)) g ob

set_option maxRecDepth 100000 in
set_option maxHeartbeats 4000000 in
/-- a round -/
theorem yt_round (r : List UInt8) (a : List Va) (H : AM.Heap) (ha : a.length ≤ 9000000) (hc : c = 0 → r = []) (hr : r.length ≤ 90000000) (hH : ytHp a H) :
    ∃ code, ((Try.f13.body).bind (codeAt [1, 1, 1, 0, 1, 0, 0, 1, 1, 0])) = some code ∧
      Tells (Or2 (fun fr H' => ∃ r' v, fr = [(0, .ro c (.pb r') 1), (6, .sl 1 0 (a.length + 1) (a.length + 1)), (16, .int .i64 (n : Nat)), (17, .int .i64 (a.length : Nat))] ∧ r'.length ≤ r.length ∧ (∀ k, rdTx (k + 1) a r = rdTx k (a ++ [v]) r') ∧ ytHp (a ++ [v]) H') (fun out => out.ex = .ret ∧ ∃ e, e ≠ 0 ∧ (∀ k, rdTx (k + 1) a r = ([], [], e)) ∧ ytQ ([], e) out.fr out.H))
       X (evT X) 13 0 code (ytFr c n a.length r ++ [(18, .bool true)]) H := by
  refine ⟨_, rfl, ?_⟩
  have hnew : ∀ x : Option AM.Obj, (H ++ [x])[H.length]? = some x := fun x => by simp
  by_cases hh : r.head? = some 251
  · obtain ⟨r', rfl⟩ : ∃ r', r = 251 :: r' := by
      cases r with
      | nil => simp at hh
      | cons y r' => simp at hh; subst hh; exact ⟨r', rfl⟩
    obtain ⟨H', hH', hl, hc1⟩ := yt_nil c n r' 251 a H ha (fun h => by have := hc h; simp at this) hH
    refine Tells.of (o := ⟨.normal, [(0, .ro c (.pb r') 1), (6, .sl 1 0 (a.length + 1) (a.length + 1)), (16, .int .i64 (n : Nat)), (17, .int .i64 (a.length : Nat))], H'⟩) ?_ (.inl ⟨rfl, r', {}, rfl, by simp, fun k => by rw [rdTx, if_pos hh]; rfl, hH'⟩)
    apply Run.block_exit (id := 1)
    apply Run.seq_out (hne := by simp)
    apply Run.seq (fr' := ytFr c n a.length (251 :: r') ++ [(27, .bool true)]) (H' := H)
    · unfold ytFr
      generalize a.length = i at *
      have hp : (0 : Int) < ((r'.length + 1 : Nat) : Int) := by omega
      have hp2 : (0 : Int) < (r'.length : Int) + 1 := by omega
      (refine ⟨0, ?_⟩; simp (maxSteps := 2000000) -implicitDefEqProofs [-getElem?_pos, List.getElem?_cons_zero, List.getElem?_cons_succ, go_sem, eqV, plen, loadV, storeV, hp, hp2])
    refine condT (by simp [evalO, getF, ytFr]) ?_
    apply Run.seq (piece hc1 _ rfl)
    exact ⟨0, rfl⟩
  have hR := readText_ev (H := H) (a := .ro c (.pb r) 1) (b := r) (Byt.ro (.inl rfl) hc) hr
  have hX : ∀ j, rdTx (j + 1) a r = if (rdT r).2.2 ≠ 0 then ([], [], (rdT r).2.2) else if 16777216 < (rdT r).1.length then ([], [], 5) else rdTx j (a ++ [{ k := 7, t := (rdT r).1 }]) (r.drop (rdT r).2.1) := fun j => by rw [rdTx, if_neg hh]
  have hle := fun h => rdT_le (b := r) h
  obtain ⟨s, k, e, hT⟩ : ∃ s k e, rdT r = (s, k, e) := ⟨_, _, _, rfl⟩
  rw [hT] at hR hX hle
  simp only at hR hX hle
  refine Tells.blkOr ?_ ?_
  · apply Tells.seq (fr' := ytFr c n a.length r ++ [(27, .bool false)]) (H' := H)
    · apply Run.seq (fr' := ytFr c n a.length r ++ [(27, .bool false)]) (H' := H)
      · unfold ytFr
        generalize a.length = i at *
        cases r with
        | nil => (refine ⟨0, ?_⟩; simp (maxSteps := 2000000) -implicitDefEqProofs [-getElem?_pos, List.getElem?_cons_zero, List.getElem?_cons_succ, go_sem, eqV, plen, loadV, storeV])
        | cons y r' =>
          have hy : ((y.toNat : Int) == 251) = false := by
            apply beq_eq_false_iff_ne.2
            intro h
            apply hh
            have : y = 251 := UInt8.toNat.inj (by show y.toNat = 251; omega)
            rw [this]; rfl
          have hp : (0 : Int) < ((r'.length + 1 : Nat) : Int) := by omega
          have hp2 : (0 : Int) < (r'.length : Int) + 1 := by omega
          (refine ⟨0, ?_⟩; simp (maxSteps := 2000000) -implicitDefEqProofs [-getElem?_pos, List.getElem?_cons_zero, List.getElem?_cons_succ, go_sem, eqV, plen, loadV, storeV, hp, hp2, hy])
      · exact condF (by simp [evalO, getF, ytFr]) ⟨0, rfl⟩
    apply Tells.seq (fr' := [(0, .ro c (.pb r) 1), (6, .sl 1 0 a.length a.length), (7, .str s), (8, .int .i64 (k : Nat)), (9, .int .i64 e), (16, .int .i64 (n : Nat)), (17, .int .i64 (a.length : Nat))]) (H' := H)
    · unfold ytFr
      generalize a.length = i at *
      (refine ⟨0, ?_⟩; simp (maxSteps := 2000000) -implicitDefEqProofs [-getElem?_pos, List.getElem?_cons_zero, List.getElem?_cons_succ, go_sem, eqV, plen, loadV, storeV, hR, assignV])
    by_cases he : e = 0
    · subst he
      obtain ⟨hl1, hl2⟩ := hle rfl
      apply Tells.seq (fr' := [(0, .ro c (.pb r) 1), (6, .sl 1 0 a.length a.length), (7, .str s), (8, .int .i64 (k : Nat)), (9, .int .i64 0), (16, .int .i64 (n : Nat)), (17, .int .i64 (a.length : Nat)), (41, .bool false)]) (H' := H)
      · apply Run.seq (fr' := [(0, .ro c (.pb r) 1), (6, .sl 1 0 a.length a.length), (7, .str s), (8, .int .i64 (k : Nat)), (9, .int .i64 0), (16, .int .i64 (n : Nat)), (17, .int .i64 (a.length : Nat)), (41, .bool false)]) (H' := H)
        · generalize a.length = i at *
          (refine ⟨0, ?_⟩; simp (maxSteps := 2000000) -implicitDefEqProofs [-getElem?_pos, List.getElem?_cons_zero, List.getElem?_cons_succ, go_sem, eqV, plen, loadV, storeV])
        · exact condF (by simp [evalO, getF]) ⟨0, rfl⟩
      by_cases hl : 16777216 < s.length
      · have hlI : (16777216 : Int) < (s.length : Int) := by omega
        refine Tells.of (o := ⟨.ret, [(4, .sl H.length 0 0 0), (5, .int .i64 5)], H ++ [some nilV]⟩) ?_ (.inr ⟨by simp, rfl, 5, by decide, fun j => by rw [hX, if_neg (by simp), if_pos hl], H.length, 0, nilV, rfl, rfl, by simp, nilV_rw⟩)
        apply Run.seq_out (hne := by simp)
        generalize a.length = i at *
        refine ⟨0, ?_⟩
        simp (maxSteps := 2000000) -implicitDefEqProofs [-getElem?_pos, List.getElem?_cons_zero, List.getElem?_cons_succ, go_sem, eqV, plen, loadV, storeV, hlI, assignV, emV]
      · have hlI : ¬ (16777216 : Int) < (s.length : Int) := by omega
        apply Tells.seq (fr' := [(0, .ro c (.pb r) 1), (6, .sl 1 0 a.length a.length), (7, .str s), (8, .int .i64 (k : Nat)), (16, .int .i64 (n : Nat)), (17, .int .i64 (a.length : Nat)), (45, .bool false)]) (H' := H)
        · apply Run.seq (fr' := [(0, .ro c (.pb r) 1), (6, .sl 1 0 a.length a.length), (7, .str s), (8, .int .i64 (k : Nat)), (16, .int .i64 (n : Nat)), (17, .int .i64 (a.length : Nat)), (45, .bool false)]) (H' := H)
          · generalize a.length = i at *
            (refine ⟨0, ?_⟩; simp (maxSteps := 2000000) -implicitDefEqProofs [-getElem?_pos, List.getElem?_cons_zero, List.getElem?_cons_succ, go_sem, eqV, plen, loadV, storeV, hlI])
          · exact condF (by simp [evalO, getF]) ⟨0, rfl⟩
        obtain ⟨H', hH', hlen, hc1⟩ := yt_val c n r s k a H ha hc hl1 hH
        exact Tells.of (piece hc1 _ rfl) (.inl ⟨rfl, r.drop k, _, rfl, by simp, fun j => by rw [hX, if_neg (by simp), if_neg hl], hH'⟩)
    · have heb : (e != 0) = true := by simpa using he
      refine Tells.of (o := ⟨.ret, [(4, .sl H.length 0 0 0), (5, .int .i64 e)], H ++ [some nilV]⟩) ?_ (.inr ⟨by simp, rfl, e, he, fun j => by rw [hX, if_pos he], H.length, 0, nilV, rfl, rfl, by simp, nilV_rw⟩)
      apply Run.seq_out (hne := by simp)
      generalize a.length = i at *
      refine ⟨0, ?_⟩
      simp (maxSteps := 2000000) -implicitDefEqProofs [-getElem?_pos, List.getElem?_cons_zero, List.getElem?_cons_succ, go_sem, eqV, plen, loadV, storeV, heb, assignV, emV]
  · rintro o ⟨h1, _⟩
    rw [h1]; simp

end

end Go.Proofs.Ytafdnpcamepbmaa

/- Walks: a text row read: whole. -/
namespace Go.Proofs.Ytafdnpcamepbmaa
open Go.AM
set_option linter.unusedSimpArgs false
set_option linter.unusedVariables false

section
variable (c : Nat)

set_option maxRecDepth 100000 in
set_option maxHeartbeats 4000000 in
theorem yt_loop (n : Nat) (b : List UInt8) (H : AM.Heap) (hn : n ≤ 4096) (hc : c = 0 → b = []) (hb : b.length ≤ 90000000) (hH : ytHp [] H) :
    ∃ code, ((Try.f13.body).bind (codeAt [1, 1, 1, 0, 1])) = some code ∧
      Tells (Or2 (fun fr H => ∃ a r, a.length = n ∧ fr = ytFr c n n r ++ [(18, .bool false)] ∧ rdTx n [] b = (a, r, 0) ∧ ytHp a H) (fun out => out.ex = .ret ∧ ∃ e, e ≠ 0 ∧ rdTx n [] b = ([], [], e) ∧ ytQ ([], e) out.fr out.H))
       X (evT X) 13 0 code (ytFr c n 0 b) H := by
  refine ⟨_, rfl, ?_⟩
  apply Tells.blockOr
  refine Tells.loopP (fun k fr H => ∃ a r, k = n - a.length ∧ a.length ≤ n ∧ fr = ytFr c n a.length r ∧ r.length ≤ b.length ∧ rdTx n [] b = rdTx (n - a.length) a r ∧ ytHp a H) ?_ (k := n) ⟨[], b, by simp, by simp, rfl, by simp, by simp, hH⟩
  rintro k fr H ⟨a, r, rfl, ha, rfl, hr, hX, hH⟩
  by_cases hin : a.length = n
  · refine Tells.of (o := ⟨.exit 0, ytFr c n n r ++ [(18, .bool false)], H⟩) ⟨0, ?_⟩ (.inr ⟨by simp, .inl ⟨rfl, a, r, hin, rfl, by rw [hX, hin, Nat.sub_self]; rfl, hH⟩⟩)
    rw [hin]
    simp (maxSteps := 2000000) -implicitDefEqProofs [-getElem?_pos, List.getElem?_cons_zero, List.getElem?_cons_succ, go_sem, eqV, plen, loadV, storeV, ytFr]
  have hiI : ((a.length : Nat) : Int) < (n : Int) := by omega
  apply Tells.seq (fr' := ytFr c n a.length r ++ [(18, .bool true)]) (H' := H)
  · unfold ytFr
    generalize a.length = i at *
    (refine ⟨0, ?_⟩; simp (maxSteps := 2000000) -implicitDefEqProofs [-getElem?_pos, List.getElem?_cons_zero, List.getElem?_cons_succ, go_sem, eqV, plen, loadV, storeV, hiI])
  apply Tells.seq (fr' := ytFr c n a.length r ++ [(18, .bool true)]) (H' := H)
  · refine condT (by simp [evalO, getF, ytFr]) ?_
    exact ⟨0, rfl⟩
  have hs : n - a.length = (n - (a.length + 1)) + 1 := by omega
  apply Tells.or (P := fun fr H' => ∃ r' v, fr = [(0, .ro c (.pb r') 1), (6, .sl 1 0 (a.length + 1) (a.length + 1)), (16, .int .i64 (n : Nat)), (17, .int .i64 (a.length : Nat))] ∧ r'.length ≤ r.length ∧ (∀ k, rdTx (k + 1) a r = rdTx k (a ++ [v]) r') ∧ ytHp (a ++ [v]) H')
  · refine (piece (yt_round c n r a H (by omega) (fun h => List.eq_nil_of_length_eq_zero (by have := hc h; subst this; simpa using hr)) (by omega) hH) _ rfl).mono ?_
    rintro o (h | ⟨h1, h2, e, he, h3, h4⟩)
    · exact .inl h
    · exact .inr ⟨h1, .inr ⟨h1, .inr ⟨h2, h2, e, he, by rw [hX, hs, h3], h4⟩⟩⟩
  rintro fr H' ⟨r', v, rfl, h1, h2, h3⟩
  have w1 : IntKind.i64.wrap (((a.length : Nat) : Int) + 1) = ((a.length + 1 : Nat) : Int) := by rw [wrap_i64 (by omega) (by omega)]; omega
  refine Tells.of (o := ⟨.normal, ytFr c n (a.length + 1) r', H'⟩) ⟨0, ?_⟩ (.inl ⟨rfl, n - (a.length + 1), by omega, a ++ [v], r', by simp, by simp; omega, by simp, by omega, by rw [hX, hs, h2]; simp, h3⟩)
  unfold ytFr
  generalize a.length = i at *
  simp (maxSteps := 2000000) -implicitDefEqProofs [-getElem?_pos, List.getElem?_cons_zero, List.getElem?_cons_succ, go_sem, eqV, plen, loadV, storeV, w1]

set_option maxRecDepth 100000 in
set_option maxHeartbeats 4000000 in
theorem trd_code (b : List UInt8) (n : Int) (hc : c = 0 → b = []) (hb : b.length ≤ 90000000) : ∃ code, Try.f13.body = some code ∧
    Tells (Rets (ytQ (rdTxt b n))) X (evT X) 13 0 code [(0, .ro c (.pb b) 1), (1, .int .i64 n)] [] := by
  refine ⟨_, rfl, ?_⟩
  apply Tells.seq (fr' := [(0, .ro c (.pb b) 1), (1, .int .i64 n)]) (H' := [some nilV])
  · (refine ⟨0, ?_⟩; simp (maxSteps := 2000000) -implicitDefEqProofs [-getElem?_pos, List.getElem?_cons_zero, List.getElem?_cons_succ, go_sem, eqV, plen, loadV, storeV, assignV, emV])
  by_cases h1 : n < 0 ∨ 4096 < n
  · rw [show rdTxt b n = ([], 2) from if_pos h1]
    refine Tells.of (o := ⟨.ret, [(4, .sl 1 0 0 0), (5, .int .i64 2)], [some nilV, some nilV]⟩) ?_ ⟨rfl, 1, 0, nilV, rfl, rfl, rfl, nilV_rw⟩
    apply Run.seq_out (hne := by simp)
    refine ⟨0, ?_⟩
    by_cases h2 : n < 0
    · simp (maxSteps := 2000000) -implicitDefEqProofs [-getElem?_pos, List.getElem?_cons_zero, List.getElem?_cons_succ, go_sem, eqV, plen, loadV, storeV, assignV, emV, h2]
    · have h3 : 4096 < n := by omega
      simp (maxSteps := 2000000) -implicitDefEqProofs [-getElem?_pos, List.getElem?_cons_zero, List.getElem?_cons_succ, go_sem, eqV, plen, loadV, storeV, assignV, emV, h2, h3]
  have h2 : ¬ n < 0 := by omega
  have h3 : ¬ 4096 < n := by omega
  obtain ⟨m, rfl⟩ : ∃ m : Nat, n = (m : Nat) := ⟨n.toNat, by omega⟩
  apply Tells.seq (fr' := [(0, .ro c (.pb b) 1), (1, .int .i64 (m : Nat)), (15, .bool false)]) (H' := [some nilV])
  · (refine ⟨0, ?_⟩; simp (maxSteps := 2000000) -implicitDefEqProofs [-getElem?_pos, List.getElem?_cons_zero, List.getElem?_cons_succ, go_sem, eqV, plen, loadV, storeV, h2, h3])
  apply Tells.seq (fr' := [(0, .ro c (.pb b) 1), (1, .int .i64 (m : Nat)), (6, .sl 1 0 0 0)]) (H' := [some nilV, some nilV])
  · (refine ⟨0, ?_⟩; simp (maxSteps := 2000000) -implicitDefEqProofs [-getElem?_pos, List.getElem?_cons_zero, List.getElem?_cons_succ, go_sem, eqV, plen, loadV, storeV, assignV, emV])
  apply Tells.assoc
  apply Tells.seq (fr' := ytFr c m 0 b) (H' := [some nilV, some nilV])
  · (refine ⟨0, ?_⟩; simp (maxSteps := 2000000) -implicitDefEqProofs [-getElem?_pos, List.getElem?_cons_zero, List.getElem?_cons_succ, go_sem, eqV, plen, loadV, storeV, ytFr])
  have hrd : rdTxt b (m : Nat) = rwZ (rdTx m [] b) := by unfold rdTxt; rw [if_neg h1]; rfl
  rw [hrd]
  apply Tells.or (P := fun fr H => ∃ a r, a.length = m ∧ fr = ytFr c m m r ++ [(18, .bool false)] ∧ rdTx m [] b = (a, r, 0) ∧ ytHp a H)
  · refine (piece (yt_loop c m b [some nilV, some nilV] (by omega) hc hb ⟨nilV, rfl, nilV_rw⟩) _ rfl).mono ?_
    rintro out (h | ⟨q1, q2, e, he, q3, q4⟩)
    · exact .inl h
    · refine .inr ⟨q1, q2, ?_⟩
      rw [q3, show rwZ ([], [], e) = ([], e) by unfold rwZ; rw [if_pos he]]
      exact q4
  rintro fr H ⟨a, r, ha, rfl, hX, ob, ho, hw⟩
  rw [hX]
  cases r with
  | cons y r =>
    have hp : (0 : Int) < ((r.length + 1 : Nat) : Int) := by omega
    have hp2 : (0 : Int) < (r.length : Int) + 1 := by omega
    rw [show rwZ (a, y :: r, 0) = ([], 5) by unfold rwZ; simp]
    refine Tells.of (o := ⟨.ret, [(4, .sl H.length 0 0 0), (5, .int .i64 5)], H ++ [some nilV]⟩) ?_ ⟨rfl, H.length, 0, nilV, rfl, rfl, by simp, nilV_rw⟩
    apply Run.seq_out (hne := by simp)
    refine ⟨0, ?_⟩
    simp (maxSteps := 2000000) -implicitDefEqProofs [-getElem?_pos, List.getElem?_cons_zero, List.getElem?_cons_succ, go_sem, eqV, plen, loadV, storeV, ytFr, hp, hp2, assignV, emV]
  | nil =>
    rw [show rwZ (a, [], 0) = (a, 0) by unfold rwZ; simp]
    refine Tells.of (o := ⟨.ret, [(4, .sl 1 0 m m), (5, .int .i64 0)], H⟩) ⟨0, ?_⟩ ⟨rfl, 1, m, ob, by simp [getF, ha], rfl, ho, by rw [← ha]; exact hw⟩
    simp (maxSteps := 2000000) -implicitDefEqProofs [-getElem?_pos, List.getElem?_cons_zero, List.getElem?_cons_succ, go_sem, eqV, plen, loadV, storeV, ytFr, assignV]

end

theorem trd_ev {H : AM.Heap} {a : AV} {b : List UInt8} {n : Int} (h : Byt H a b) (hb : b.length ≤ 90000000) :
    ∃ ob, Rw (.pr 12 ((rdTxt b n).1.map Va.pay)) 0 ob ∧ evT X 13 [a, .int .i64 n] H = some (.tup [.sl H.length 0 (rdTxt b n).1.length 0, .int .i64 (rdTxt b n).2], H ++ [some ob]) := by
  obtain ⟨c, p, xl, hp, hc, hx'⟩ := args_byt (C := X) (f := 13) (i := 0) rfl h (args_flat (i := 1) (a := .int .i64 n) rfl rfl (args_nil 2))
  obtain ⟨code, hcode, hr⟩ := trd_code c b n hc hb
  have hid := va_tags (rdTxt b n).1
  obtain ⟨ob, q1, q2⟩ := Ev1.newR (H := H) (n := (rdTxt b n).1.length) (es := 12) (l := (rdTxt b n).1.map Va.pay) (rest := [.int .i64 (rdTxt b n).2]) (evT_below X) Try.func13 hcode hx' (by simp [idsL, ids, hp.ids]) (by simp [gtag]) rfl rfl rfl hid.1 hid.2 (by
    obtain ⟨o, ⟨he, o1, g1, ob, q1, q2, q4, q5⟩, hrun⟩ := hr
    exact ⟨o, ⟨he, o1, g1, ob, by show some [getF o.fr 4, getF o.fr 5] = _; rw [q1, q2], q4, q5⟩, by rw [par13, coB hp]; exact hrun⟩)
  exact ⟨ob, q1, evT_eq q2⟩

end Go.Proofs.Ytafdnpcamepbmaa

/- Walks: the law RowBack: a text row. -/
namespace Go.Proofs.Ytafdnpcamepbmaa
open Go.AM
set_option linter.unusedSimpArgs false
set_option linter.unusedVariables false

section
variable (d : Nat) (l : List Va) (e : Nat) (ts : List Ty) (cut : Int) (y : UInt8)

/-- the law's arguments -/
def rkB : AM.Frame := [(0, .ro d (.pr 12 (l.map Va.pay)) 1), (1, .ro e (.pr 2 (ts.map Ty.pay)) 2), (2, .int .i64 cut), (3, .int .u8 (y.toNat : Nat))]

/-- a slice's bytes, and one more -/
theorem more_ev {H : AM.Heap} {o : Nat} {ob : AM.Obj} {b : List UInt8} (y : UInt8) (ho : H[o]? = some (some ob)) (hw : Rw (.pb b) 0 ob) (hb : b.length ≤ 1000000) :
    ∃ obx, appendV X H 22 (.ro 1 (.pb []) 0) (.sl o 0 b.length 0) = some (.sl H.length 0 b.length 0, H ++ [some ⟨.pb b, 0, .none, 1, true, false, 0⟩]) ∧
      appendV X (H ++ [some ⟨.pb b, 0, .none, 1, true, false, 0⟩]) 22 (.sl H.length 0 b.length 0) (.ro 1 (.pb [y]) 0) = some (.sl H.length 0 (b.length + 1) 1, H ++ [some obx]) ∧ Byt (H ++ [some obx]) (.sl H.length 0 (b.length + 1) 1) (b ++ [y]) := by
  have hA1 := app_lit (H := H) (src := .sl o 0 b.length 0) (.inl (srcW ho hw rfl)) (by omega)
  have hnw : (H ++ [some (⟨.pb b, 0, .none, 1, true, false, 0⟩ : AM.Obj)])[H.length]? = some (some ⟨.pb b, 0, .none, 1, true, false, 0⟩) := by simp
  obtain ⟨obx, hwx, hA2⟩ := app_b (H := H ++ [some (⟨.pb b, 0, .none, 1, true, false, 0⟩ : AM.Obj)]) (o := H.length) (g := 0) (l := b) (m := [y]) (src := .ro 1 (.pb [y]) 0) hnw ⟨rfl, rfl, rfl, rfl, rfl⟩ (.inl rfl) (by simp; omega)
  have hup : upd (H ++ [some (⟨.pb b, 0, .none, 1, true, false, 0⟩ : AM.Obj)]) H.length (some obx) = H ++ [some obx] := by unfold upd; simp
  rw [hup] at hA2
  refine ⟨obx, hA1, by simpa using hA2, ?_⟩
  have := Byt.whole (H := H ++ [some obx]) (o := H.length) (by simp) hwx
  rw [show (b ++ [y]).length = b.length + 1 by simp] at this
  exact this

set_option maxRecDepth 100000 in
set_option maxHeartbeats 8000000 in
theorem bt_half (H : AM.Heap) (o : Nat) (ob1 : AM.Obj) (hd : d = 0 → l = []) (hl : l.length ≤ 60) (hok : ∀ v ∈ l, okTx v) (hT : (txR l).length ≤ 1000000) (ho : H[o]? = some (some ob1)) (hw : Rw (.pb (txR l)) 0 ob1) :
    ∃ code, ((Try.f4.body).bind (codeAt [1, 1, 1, 1, 0, 1, 0])) = some code ∧
      Tells (Goes fun fr H' => (fr = rkB d l e ts cut y ++ [(83, .bool false)] ∨ fr = rkB d l e ts cut y ++ [(9, .sl o 0 0 0), (69, .bool false)])) X (evT X) 4 0 code (rkB d l e ts cut y ++ [(9, .sl o 0 (txR l).length 0), (35, .bool true)]) H := by
  refine ⟨_, rfl, ?_⟩
  have hLl : (l.map Va.pay).length = l.length := List.length_map _
  have hB := txt_back (by omega) hok []
  rw [List.append_nil, if_pos rfl] at hB
  obtain ⟨ob2, hw2, hR1⟩ := trd_ev (H := H) (a := .sl o 0 (txR l).length 0) (b := txR l) (n := (l.length : Nat)) (Byt.whole ho hw) (by omega)
  rw [hB] at hw2 hR1
  simp only at hw2 hR1
  have ho2 : (H ++ [some ob2])[o]? = some (some ob1) := at_cat ho
  obtain ⟨obx, hA1, hA2, hBx⟩ := more_ev y ho2 hw hT
  have hcl : (H ++ [some ob2]).length = H.length + 1 := by simp
  rw [hcl] at hA1 hA2 hBx
  obtain ⟨ob3, hw3, hR2⟩ := trd_ev (H := H ++ [some ob2] ++ [some obx]) (b := txR l ++ [y]) (n := (l.length : Nat)) hBx (by simp; omega)
  rw [txt_back (by omega) hok [y], if_neg (by simp)] at hR2
  simp only at hR2
  have hcl2 : (H ++ [some ob2] ++ [some obx]).length = H.length + 2 := by simp
  rw [hcl2] at hR2
  have hby := fun H => bs1 H y
  have hb0 := fun H => bs0 H
  unfold rkB
  have hS := same_ev (H := H ++ [some ob2] ++ [some obx] ++ [some ob3]) (a := .ro d (.pr 12 (l.map Va.pay)) 1) (a2 := .sl H.length 0 l.length 0) (l := l) (RoRow.ro fun h => by rw [hd h]; rfl) (by
      have := RoRow.whole (H := H ++ [some ob2] ++ [some obx] ++ [some ob3]) (o := H.length) (at_cat (at_cat (by simp))) hw2
      rwa [List.length_map] at this) (by omega)
  generalize l.map Va.pay = L at *
  generalize ts.map Ty.pay = T at *
  apply Tells.seq (fr' := [(0, .ro d (.pr 12 L) 1), (1, .ro e (.pr 2 T) 2), (2, .int .i64 cut), (3, .int .u8 (y.toNat : Nat)), (9, .sl o 0 (txR l).length 0), (11, .sl H.length 0 l.length 0), (12, .int .i64 0)]) (H' := H ++ [some ob2])
  · generalize (txR l).length = N at *
    (refine ⟨0, ?_⟩; simp (maxSteps := 2000000) -implicitDefEqProofs [-getElem?_pos, List.getElem?_cons_zero, List.getElem?_cons_succ, go_sem, eqV, plen, loadV, storeV, hLl, hR1, assignV])
  apply Tells.seq (fr' := [(0, .ro d (.pr 12 L) 1), (1, .ro e (.pr 2 T) 2), (2, .int .i64 cut), (3, .int .u8 (y.toNat : Nat)), (9, .sl o 0 (txR l).length 0), (11, .sl H.length 0 l.length 0), (12, .int .i64 0), (14, .int .i64 5)]) (H' := H ++ [some ob2] ++ [some obx] ++ [some ob3])
  · generalize (txR l).length = N at *
    generalize H ++ [some ob2] ++ [some (⟨.pb (txR l), 0, .none, 1, true, false, 0⟩ : AM.Obj)] = Ha at *
    generalize H ++ [some ob2] ++ [some obx] ++ [some ob3] = Hc at *
    generalize H ++ [some ob2] ++ [some obx] = Hb at *
    generalize H ++ [some ob2] = Hz at *
    (refine ⟨0, ?_⟩; simp (maxSteps := 2000000) -implicitDefEqProofs [-getElem?_pos, List.getElem?_cons_zero, List.getElem?_cons_succ, go_sem, eqV, plen, loadV, storeV, hLl, hb0, hby, hA1, hA2, hR2, assignV])
  have g0 : (H ++ [some ob2] ++ [some obx] ++ [some ob3])[o]? = some (some ob1) := at_cat (at_cat ho2)
  generalize H ++ [some ob2] ++ [some obx] ++ [some ob3] = H3 at *
  apply Tells.seq (fr' := [(0, .ro d (.pr 12 L) 1), (1, .ro e (.pr 2 T) 2), (2, .int .i64 cut), (3, .int .u8 (y.toNat : Nat)), (9, .sl o 0 (txR l).length 0), (66, .bool false)]) (H' := H3)
  · apply Run.seq (fr' := [(0, .ro d (.pr 12 L) 1), (1, .ro e (.pr 2 T) 2), (2, .int .i64 cut), (3, .int .u8 (y.toNat : Nat)), (9, .sl o 0 (txR l).length 0), (66, .bool false)]) (H' := H3)
    · generalize (txR l).length = N at *
      (refine ⟨0, ?_⟩; simp (maxSteps := 2000000) -implicitDefEqProofs [-getElem?_pos, List.getElem?_cons_zero, List.getElem?_cons_succ, go_sem, eqV, plen, loadV, storeV, hS, unV])
    · exact condF (by simp [evalO, getF]) ⟨0, rfl⟩
  by_cases hN0 : (txR l).length = 0
  · rw [hN0]
    refine Tells.of (o := ⟨.normal, [(0, .ro d (.pr 12 L) 1), (1, .ro e (.pr 2 T) 2), (2, .int .i64 cut), (3, .int .u8 (y.toNat : Nat))] ++ [(9, .sl o 0 0 0), (69, .bool false)], H3⟩) ⟨0, ?_⟩ ⟨rfl, .inr rfl⟩
    simp (maxSteps := 2000000) -implicitDefEqProofs [-getElem?_pos, List.getElem?_cons_zero, List.getElem?_cons_succ, go_sem, eqV, plen, loadV, storeV, g0, hw.g]
  have hNI : (0 : Int) < ((txR l).length : Int) := by omega
  have hNn : 0 < (txR l).length := by omega
  apply Tells.seq (fr' := [(0, .ro d (.pr 12 L) 1), (1, .ro e (.pr 2 T) 2), (2, .int .i64 cut), (3, .int .u8 (y.toNat : Nat)), (9, .sl o 0 (txR l).length 0), (69, .bool true)]) (H' := H3)
  · generalize (txR l).length = N at *
    (refine ⟨0, ?_⟩; simp (maxSteps := 2000000) -implicitDefEqProofs [-getElem?_pos, List.getElem?_cons_zero, List.getElem?_cons_succ, go_sem, eqV, plen, loadV, storeV, hNI, hNn, g0, hw.g])
  apply Tells.condT (by simp [evalO, getF])
  have hpk := pick_ev (H := H3) cut (txR l).length (by omega) (by omega)
  have hpi := pk_in (x := cut) (n := ((txR l).length : Nat)) (by omega)
  obtain ⟨k, hk⟩ : ∃ k : Nat, pkI cut ((txR l).length : Nat) = (k : Nat) := ⟨(pkI cut ((txR l).length : Nat)).toNat, by omega⟩
  rw [hk] at hpk hpi
  have hsl := slOwn (k := k) g0 hw rfl (by omega)
  have hBk : Byt H3 (.sl o 0 k 0) ((txR l).take k) := Byt.sl g0 hw (by simp) (by omega)
  obtain ⟨ob4, hw4, hR3⟩ := trd_ev (H := H3) (b := (txR l).take k) (n := (l.length : Nat)) hBk (by rw [List.length_take]; omega)
  rw [txt_less (by omega) hok (by omega)] at hR3
  simp only at hR3
  apply Tells.seq (fr' := [(0, .ro d (.pr 12 L) 1), (1, .ro e (.pr 2 T) 2), (2, .int .i64 cut), (3, .int .u8 (y.toNat : Nat)), (16, .int .i64 4)]) (H' := H3 ++ [some ob4])
  · generalize (txR l).length = N at *
    (refine ⟨0, ?_⟩; simp (maxSteps := 2000000) -implicitDefEqProofs [-getElem?_pos, List.getElem?_cons_zero, List.getElem?_cons_succ, go_sem, eqV, plen, loadV, storeV, hLl, g0, hw.g, hpk, hsl, hR3, assignV])
  refine Tells.of (o := ⟨.normal, [(0, .ro d (.pr 12 L) 1), (1, .ro e (.pr 2 T) 2), (2, .int .i64 cut), (3, .int .u8 (y.toNat : Nat))] ++ [(83, .bool false)], H3 ++ [some ob4]⟩) ⟨0, ?_⟩ ⟨rfl, .inl rfl⟩
  simp (maxSteps := 2000000) -implicitDefEqProofs [-getElem?_pos, List.getElem?_cons_zero, List.getElem?_cons_succ, go_sem, eqV, plen, loadV, storeV]

end

end Go.Proofs.Ytafdnpcamepbmaa
