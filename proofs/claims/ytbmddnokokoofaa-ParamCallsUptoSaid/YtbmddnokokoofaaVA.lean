/- Walks: the document's moment, appended: its end. -/
import Derived.Test.YtbmddnokokoofaaV9
namespace Go.Proofs.Ytbmddnokokoofaa
open Go.AM
set_option linter.unusedSimpArgs false
set_option linter.unusedVariables false

theorem rfx_code (c : Nat) (b : List UInt8) (x n : Nat) (hc : c = 0 → b = []) (hb : b.length ≤ 1000000) (h1 : 1 ≤ n) (h8 : n ≤ 8) (hx : x < 256 ^ n) : ∃ code, Try.f49.body = some code ∧
    Tells (Rets fun fr H => ∃ o g ob, getF fr 6 = .sl o 0 (b.length + n) g ∧ H[o]? = some (some ob) ∧ Rw (.pb (b ++ leB n x)) g ob) X (evT X) 49 0 code [(0, .ro c (.pb b) 1), (1, .int .u64 (x : Nat)), (2, .int .i64 (n : Nat))] [] := by
  refine ⟨_, rfl, ?_⟩
  obtain ⟨ob1, hw1, hA⟩ := raf_ev (H := [some nilB]) (a := .ro c (.pb b) 1) (b := b) (x := x) (n := n) (Byt.ro (.inl rfl) hc) (by omega) h1 h8 hx
  refine Tells.of (o := ⟨.ret, [(6, .sl 1 0 (b.length + n) 0)], [some nilB, some ob1]⟩) ⟨0, ?_⟩ ⟨rfl, 1, 0, ob1, rfl, rfl, hw1⟩
  simp (maxSteps := 2000000) -implicitDefEqProofs [-getElem?_pos, List.getElem?_cons_zero, List.getElem?_cons_succ, go_sem, eqV, plen, loadV, storeV, assignV, emB, hA]

theorem rfx_ev {H : AM.Heap} {a : AV} {b : List UInt8} {x n : Nat} {N : Int} (h : Byt H a b) (hN : N = (n : Nat)) (hb : b.length ≤ 1000000) (h1 : 1 ≤ n) (h8 : n ≤ 8) (hx : x < 256 ^ n) :
    ∃ ob, Rw (.pb (b ++ leB n x)) 0 ob ∧ evT X 49 [a, .int .u64 (x : Nat), .int .i64 N] H = some (.sl H.length 0 (b.length + n) 0, H ++ [some ob]) := by
  subst hN
  obtain ⟨c, p, xl, hp, hc, hx'⟩ := args_byt (C := X) (f := 49) (i := 0) rfl h (args_flat (i := 1) (a := .int .u64 (x : Nat)) rfl rfl (args_flat (i := 2) (a := .int .i64 (n : Nat)) rfl rfl (args_nil 3)))
  obtain ⟨code, hcode, hr⟩ := rfx_code c b x n hc hb h1 h8 hx
  obtain ⟨ob, q1, q2⟩ := Ev1.newB (H := H) (n := b.length + n) (l := b ++ leB n x) (rest := []) (evT_below X) Try.func49 hcode hx' (by simp [idsL, ids, hp.ids]) (by simp [gtag]) rfl rfl rfl (by
    obtain ⟨o, ⟨he, o1, g, ob, q1, q3, q4⟩, hrun⟩ := hr
    exact ⟨o, ⟨he, o1, g, ob, by show some [getF o.fr 6] = _; rw [q1], q3, q4⟩, by rw [par49, coB hp]; exact hrun⟩)
  exact ⟨ob, q1, evT_eq q2⟩

noncomputable def mtE : Option Code := ((((Try.f50.body).bind cR).bind cR).bind cR)

theorem Byt.whole' {H : AM.Heap} {o g : Nat} {ob : AM.Obj} {l : List UInt8} (ho : H[o]? = some (some ob)) (h : Rw (.pb l) g ob) : Byt H (.sl o 0 l.length g) l := Byt.whole ho h

section
variable (c : Nat) (b own : List UInt8) (w : Wh)

set_option maxRecDepth 100000 in
set_option maxHeartbeats 4000000 in
theorem mt_end (H : AM.Heap) (o g : Nat) (ob : AM.Obj) (fr : AM.Frame) (hc : c = 0 → b = []) (hb : b.length ≤ 100000) (how : own.length ≤ 100) (h0 : H[0]? = some (some (whO w))) (ho : H[o]? = some (some ob)) (hw : Rw (.pb own) g ob) (hu : 0 ≤ w.us ∧ w.us < 4294967296) : ∃ code, mtE = some code ∧
    Tells (Rets fun fr H => ∃ o g ob, getF fr 6 = .sl o 0 (b ++ (UInt8.ofNat (own ++ usB w).length :: (own ++ usB w))).length g ∧ H[o]? = some (some ob) ∧ Rw (.pb (b ++ (UInt8.ofNat (own ++ usB w).length :: (own ++ usB w)))) g ob)
      X (evT X) 50 0 code ([(0, .ro c (.pb b) 1), (4, .ptr 0 0 0 0), (7, .sl o 0 own.length g)] ++ fr) H := by
  refine ⟨_, rfl, ?_⟩
  have fin0 : ∀ (H : AM.Heap) (o g : Nat) (ob : AM.Obj) (own : List UInt8) (fr0 : AM.Frame), getF fr0 0 = .ro c (.pb b) 1 → getF fr0 7 = .sl o 0 own.length g → own.length ≤ 120 → H[o]? = some (some ob) → Rw (.pb own) g ob → ∀ code, ((mtE.bind cR)) = some code →
      Tells (Rets fun fr H => ∃ o g ob, getF fr 6 = .sl o 0 (b ++ (UInt8.ofNat own.length :: own)).length g ∧ H[o]? = some (some ob) ∧ Rw (.pb (b ++ (UInt8.ofNat own.length :: own))) g ob)
      X (evT X) 50 0 code fr0 H := by
    intro H o g ob own fr0 hf0 hf7 how ho hw code hcode
    have gen : ∃ code, (mtE.bind cR) = some code ∧ Tells (Rets fun fr H => ∃ o g ob, getF fr 6 = .sl o 0 (b ++ (UInt8.ofNat own.length :: own)).length g ∧ H[o]? = some (some ob) ∧ Rw (.pb (b ++ (UInt8.ofNat own.length :: own))) g ob)
      X (evT X) 50 0 code fr0 H := by
      refine ⟨_, rfl, ?_⟩
      have hb0 := fun H => bs0 H
      have hlt : o < H.length := (List.getElem?_eq_some_iff.1 ho).1
      have hA0 := app_lit (H := H) (m := b) (src := .ro c (.pb b) 1) (srcB (.inl rfl)) (by omega)
      have hw0 : Rw (.pb b) 0 ⟨.pb b, 0, .none, 1, true, false, 0⟩ := ⟨rfl, rfl, rfl, rfl, rfl⟩
      generalize (⟨.pb b, 0, .none, 1, true, false, 0⟩ : AM.Obj) = ob0 at *
      have hg := hw.g
      have hp := hw.p
      have hi := hw.ids
      have ht := hw.tg
      obtain ⟨ob1, hw1, hA1⟩ := app_b (H := H ++ [some ob0]) (o := H.length) (m := [UInt8.ofNat own.length]) (src := .ro 1 (.pb [UInt8.ofNat own.length]) 0) (cat_at H _) hw0 (.inl rfl) (by simp; omega)
      rw [show upd (H ++ [some ob0]) H.length (some ob1) = H ++ [some ob1] from cat_set H _ _] at hA1
      have ho1 : (H ++ [some ob1])[o]? = some (some ob) := by rw [List.getElem?_append_left hlt]; exact ho
      obtain ⟨ob2, hw2, hA2⟩ := app_b (H := H ++ [some ob1]) (o := H.length) (m := own) (src := .sl o 0 own.length g) (cat_at H _) hw1 (.inl (by simp [srcV, live, ho1, hg, hi, hp, psub, payB, ptag])) (by simp; omega)
      rw [show upd (H ++ [some ob1]) H.length (some ob2) = H ++ [some ob2] from cat_set H _ _] at hA2
      have wl : IntKind.u8.wrap (own.length : Int) = (own.length : Int) := wrap_u8 (by omega) (by omega)
      have hbl := fun H => bsK H (UInt8.ofNat own.length) (own.length : Int) (by simp; omega)
      have ho0 : (H ++ [some ob0])[o]? = some (some ob) := by rw [List.getElem?_append_left hlt]; exact ho
      refine Tells.of (o := ⟨.ret, [(6, .sl H.length 0 (b.length + 1 + own.length) 2)], H ++ [some ob2]⟩) ⟨0, ?_⟩ ⟨rfl, H.length, 2, ob2, by simp [getF]; omega, cat_at H _, by simpa using hw2⟩
      simp only [List.length_append, List.length_cons, List.length_nil, Nat.zero_add] at hA1 hA2
      generalize UInt8.ofNat own.length = ol at *
      generalize own.length = n at *
      generalize H.length = hl at *
      simp (maxSteps := 2000000) -implicitDefEqProofs [-getElem?_pos, List.getElem?_cons_zero, List.getElem?_cons_succ, go_sem, eqV, plen, loadV, storeV, hf0, hf7, hb0, hA0, ho0, ho1, hg, wl, hbl, hA1, hA2, assignV]
    obtain ⟨code', h1, h2⟩ := gen
    rw [hcode] at h1
    exact (Option.some.inj h1) ▸ h2
  have fin := fun (H : AM.Heap) (o g : Nat) (ob : AM.Obj) (own : List UInt8) (tl : AM.Frame) (how : own.length ≤ 120) (ho : H[o]? = some (some ob)) (hw : Rw (.pb own) g ob) (code : Code) (hcode : (mtE.bind cR) = some code) => fin0 H o g ob own ([(0, .ro c (.pb b) 1), (4, .ptr 0 0 0 0), (7, .sl o 0 own.length g)] ++ tl) rfl rfl how ho hw code hcode
  have fin2 := fun (H : AM.Heap) (o g : Nat) (ob : AM.Obj) (own : List UInt8) (how : own.length ≤ 120) (ho : H[o]? = some (some ob)) (hw : Rw (.pb own) g ob) (code : Code) (hcode : (mtE.bind cR) = some code) => fin0 H o g ob own [(0, .ro c (.pb b) 1), (7, .sl o 0 own.length g)] rfl rfl how ho hw code hcode
  unfold usB
  have hg := hw.g
  by_cases hus : w.us = 0
  · rw [if_pos hus, List.append_nil]
    apply Tells.seq (fr' := [(0, .ro c (.pb b) 1), (4, .ptr 0 0 0 0), (7, .sl o 0 own.length g)] ++ [(69, .bool false)]) (H' := H)
    · generalize own.length = n at *
      (refine ⟨0, ?_⟩; simp (maxSteps := 2000000) -implicitDefEqProofs [-getElem?_pos, List.getElem?_cons_zero, List.getElem?_cons_succ, go_sem, eqV, plen, loadV, storeV, h0, whO, Wh.pay, hus])
    exact fin H o g ob own _ (by omega) ho hw _ rfl
  · rw [if_neg hus]
    have husb : (w.us != 0) = true := by simpa using hus
    obtain ⟨un, hun⟩ : ∃ n : Nat, w.us = (n : Int) := ⟨w.us.toNat, by omega⟩
    have eu : w.us.toNat = un := by rw [hun]; simp
    rw [eu]
    have wd : IntKind.u64.wrap w.us = (un : Int) := by rw [hun]; exact wrap_u64 (by omega) (by omega)
    obtain ⟨ob2, hw2, hF⟩ := rfx_ev (H := H) (a := .sl o 0 own.length g) (b := own) (x := un) (n := 4) (N := 4) (Byt.whole' ho hw) rfl (by omega) (by omega) (by omega) (by omega)
    apply Tells.seq (fr' := [(0, .ro c (.pb b) 1), (7, .sl H.length 0 (own.length + 4) 0)]) (H' := H ++ [some ob2])
    · generalize own.length = n at *
      generalize hHl : H.length = hl at *
      (refine ⟨0, ?_⟩; simp (maxSteps := 2000000) -implicitDefEqProofs [-getElem?_pos, List.getElem?_cons_zero, List.getElem?_cons_succ, go_sem, eqV, plen, loadV, storeV, h0, whO, Wh.pay, husb, wd, hF, assignV])
    have := fin2 (H ++ [some ob2]) H.length 0 ob2 (own ++ leB 4 un) (by simp [leB_len]; omega) (cat_at H _) hw2 _ rfl
    rw [show (own ++ leB 4 un).length = own.length + 4 by simp [leB_len]] at this ⊢
    exact this

end

end Go.Proofs.Ytbmddnokokoofaa
