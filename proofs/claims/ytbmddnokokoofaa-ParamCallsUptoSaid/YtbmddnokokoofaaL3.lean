/- Walks: counted numbers and texts, appended and read. -/
import Derived.Test.YtbmddnokokoofaaL2
import Derived.Test.YtbmddnokokoofaaF2
namespace Go.Proofs.Ytbmddnokokoofaa
open Go.AM
set_option linter.unusedSimpArgs false
set_option linter.unusedVariables false

/-- a counted number's bytes -/
def aI (x : Nat) : List UInt8 := (if (frm x).1 = 0 then [] else [UInt8.ofNat (frm x).1]) ++ leB (frm x).2 x

theorem frm_ok {x : Nat} (hx : x < 18446744073709551616) : 1 ≤ (frm x).2 ∧ (frm x).2 ≤ 8 ∧ x < 256 ^ (frm x).2 ∧ (frm x).1 < 256 := by
  unfold frm
  split
  · simp only [Nat.reducePow]; omega
  · split
    · simp only [Nat.reducePow]; omega
    · split
      · simp only [Nat.reducePow]; omega
      · simp only [Nat.reducePow]; omega

theorem aI_len (x : Nat) : (aI x).length = szI x := by
  unfold aI szI frm
  split
  · simp [leB_len]
  · split
    · simp [leB_len]
    · split
      · simp [leB_len]
      · simp [leB_len]

theorem szI_le (x : Nat) : 1 ≤ szI x ∧ szI x ≤ 9 := by
  unfold szI; repeat' split
  all_goals omega

section
variable (c : Nat) (b : List UInt8) (x : Nat)

set_option maxRecDepth 100000 in
theorem appendInt_code (hc : c = 0 → b = []) (hb : b.length ≤ 80000000) (hx : x < 18446744073709551616) : ∃ code, Try.f55.body = some code ∧
    Tells (Rets fun fr H => ∃ o g ob, getF fr 4 = .sl o 0 (b.length + szI x) g ∧ H[o]? = some (some ob) ∧ Rw (.pb (b ++ aI x)) g ob) X (evT X) 55 0 code [(0, .ro c (.pb b) 1), (1, .int .u64 (x : Nat))] [] := by
  refine ⟨_, rfl, ?_⟩
  obtain ⟨h1, h8, hxn, hf⟩ := frm_ok hx
  have hlen := aI_len x
  rw [← hlen]
  unfold aI
  obtain ⟨ob0, hw0, hC⟩ := clone_ev (H := [some nilB]) (a := .ro c (.pb b) 1) (b := b) (Byt.ro (.inl rfl) hc) (by omega)
  have hF := form_ev x [some nilB]
  generalize frm x = r at *
  obtain ⟨q, n⟩ := r
  simp only at h1 h8 hxn hf hF ⊢
  by_cases h0 : q = 0
  · subst h0
    obtain ⟨ob1, hw1, hA⟩ := af_ev (H := [some nilB, some ob0]) (a := .sl 1 0 b.length 0) (b := b) (x := x) (n := n) (Byt.whole rfl hw0) (by omega) h1 h8 hxn
    refine Tells.of (o := ⟨.ret, [(4, .sl 2 0 (b.length + n) 0)], [some nilB, some ob0, some ob1]⟩) ?_ ⟨rfl, 2, 0, ob1, by simp [getF, leB_len], rfl, by simpa using hw1⟩
    refine ⟨0, ?_⟩
    simp (maxSteps := 2000000) -implicitDefEqProofs [-getElem?_pos, List.getElem?_cons_zero, List.getElem?_cons_succ, go_sem, eqV, plen, loadV, storeV, assignV, emB, hF, hC, hA]
  · have h0b : ((q : Int) != 0) = true := by simpa using h0
    have h0i : ¬ (q : Int) = 0 := by omega
    rw [if_neg h0]
    have hbs := fun H => bs1 H (UInt8.ofNat q)
    have hqn : (UInt8.ofNat q).toNat = q := by simp; omega
    rw [hqn] at hbs
    obtain ⟨ob', hw', hA1⟩ := app_b (H := [some nilB, some ob0]) (o := 1) (src := .ro 1 (.pb [UInt8.ofNat q]) 0) rfl hw0 (.inl rfl) (by simp; omega)
    obtain ⟨ob1, hw1, hA⟩ := af_ev (H := [some nilB, some ob']) (a := .sl 1 0 (b ++ [UInt8.ofNat q]).length 1) (b := b ++ [UInt8.ofNat q]) (x := x) (n := n) (Byt.whole rfl hw') (by simp; omega) h1 h8 hxn
    refine Tells.of (o := ⟨.ret, [(4, .sl 2 0 (b.length + 1 + n) 0)], [some nilB, some ob', some ob1]⟩) ?_ ⟨rfl, 2, 0, ob1, by simp [getF, leB_len]; omega, rfl, by simpa using hw1⟩
    refine ⟨0, ?_⟩
    simp only [List.length_append, List.length_cons, List.length_nil, Nat.zero_add] at hA1 hA
    simp (maxSteps := 2000000) -implicitDefEqProofs [-getElem?_pos, List.getElem?_cons_zero, List.getElem?_cons_succ, go_sem, eqV, plen, loadV, storeV, assignV, emB, hF, hC, h0b, h0i, hbs, hA1, upd, hA]

set_option maxRecDepth 100000 in
theorem rappendInt_code (hc : c = 0 → b = []) (hb : b.length ≤ 80000000) (hx : x < 18446744073709551616) : ∃ code, Try.f62.body = some code ∧
    Tells (Rets fun fr H => ∃ o g ob, getF fr 4 = .sl o 0 (b.length + szI x) g ∧ H[o]? = some (some ob) ∧ Rw (.pb (b ++ aI x)) g ob) X (evT X) 62 0 code [(0, .ro c (.pb b) 1), (1, .int .u64 (x : Nat))] [] := by
  refine ⟨_, rfl, ?_⟩
  obtain ⟨h1, h8, hxn, hf⟩ := frm_ok hx
  have hb0 := fun H => bs0 H
  have hC := app_lit (H := [some nilB]) (m := b) (src := .ro c (.pb b) 1) (srcB (.inl rfl)) (by omega)
  have hw0 : Rw (.pb b) 0 ⟨.pb b, 0, .none, 1, true, false, 0⟩ := ⟨rfl, rfl, rfl, rfl, rfl⟩
  generalize (⟨.pb b, 0, .none, 1, true, false, 0⟩ : AM.Obj) = ob0 at *
  have hS := rsize_ev x [some nilB]
  by_cases h1 : x ≤ 250
  · have hs : szI x = 1 := by unfold szI; rw [if_pos h1]
    have hai : aI x = [UInt8.ofNat x] := by unfold aI frm; rw [if_pos h1]; simp only [leB, if_true, List.nil_append]; rw [Nat.mod_eq_of_lt (by omega)]
    rw [hs] at hS ⊢
    rw [hai]
    have hbs := fun H => bs1 H (UInt8.ofNat x)
    have hqn : (UInt8.ofNat x).toNat = x := by simp; omega
    rw [hqn] at hbs
    have w8 : IntKind.u8.wrap (x : Int) = (x : Int) := wrap_u8 (by omega) (by omega)
    obtain ⟨ob', hw', hA1⟩ := app_b (H := [some nilB, some ob0]) (o := 1) (src := .ro 1 (.pb [UInt8.ofNat x]) 0) rfl hw0 (.inl rfl) (by simp; omega)
    refine Tells.of (o := ⟨.ret, [(4, .sl 1 0 (b.length + 1) 1)], [some nilB, some ob']⟩) ?_ ⟨rfl, 1, 1, ob', rfl, rfl, hw'⟩
    refine ⟨0, ?_⟩
    simp only [List.length_append, List.length_cons, List.length_nil, Nat.zero_add] at hA1
    simp (maxSteps := 2000000) -implicitDefEqProofs [-getElem?_pos, List.getElem?_cons_zero, List.getElem?_cons_succ, go_sem, eqV, plen, loadV, storeV, assignV, emB, hS, hb0, hC, w8, hbs, hA1, upd]
  · obtain ⟨n, q, hn, hq, hsz, hfr⟩ : ∃ n q : Nat, szI x = n + 1 ∧ q = (frm x).1 ∧ n = (frm x).2 ∧ (n < 8 ∧ q = 250 + n ∨ n = 8 ∧ q = 254) ∧ 1 < n := by
      unfold szI frm
      rw [if_neg h1, if_neg h1]
      split
      · exact ⟨2, 252, rfl, rfl, rfl, .inl ⟨by omega, rfl⟩, by omega⟩
      · split
        · exact ⟨3, 253, rfl, rfl, rfl, .inl ⟨by omega, rfl⟩, by omega⟩
        · exact ⟨8, 254, rfl, rfl, rfl, .inr ⟨rfl, rfl⟩, by omega⟩
    obtain ⟨hcs, hn1⟩ := hfr
    have hai : aI x = UInt8.ofNat q :: leB n x := by unfold aI; rw [← hq, ← hsz, if_neg (by omega)]; rfl
    rw [hn] at hS ⊢
    rw [hai]
    rw [← hsz] at hxn h8
    have hbs := fun H => bs1 H (UInt8.ofNat q)
    have hqn : (UInt8.ofNat q).toNat = q := by simp; omega
    rw [hqn] at hbs
    have hne : ¬ ((n : Int) + 1 = 1) := by omega
    have hneb : ((n : Int) + 1 == 1) = false := by simpa using hne
    have hne1 : ¬ ((n : Int) = 0) := by omega
    have wn : IntKind.i64.wrap ((n : Int) + 1 - 1) = (n : Int) := by rw [wrap_i64 (by omega) (by omega)]; omega
    have wn2 : IntKind.i64.wrap (n : Int) = (n : Int) := by rw [wrap_i64 (by omega) (by omega)]
    obtain ⟨ob', hw', hA1⟩ := app_b (H := [some nilB, some ob0]) (o := 1) (src := .ro 1 (.pb [UInt8.ofNat q]) 0) rfl hw0 (.inl rfl) (by simp; omega)
    obtain ⟨ob1, hw1, hA⟩ := raf_ev (H := [some nilB, some ob']) (a := .sl 1 0 (b ++ [UInt8.ofNat q]).length 1) (b := b ++ [UInt8.ofNat q]) (x := x) (n := n) (Byt.whole rfl hw') (by simp; omega) (by omega) h8 hxn
    refine Tells.of (o := ⟨.ret, [(4, .sl 2 0 (b.length + 1 + n) 0)], [some nilB, some ob', some ob1]⟩) ?_ ⟨rfl, 2, 0, ob1, by simp [getF]; omega, rfl, by simpa using hw1⟩
    refine ⟨0, ?_⟩
    simp only [List.length_append, List.length_cons, List.length_nil, Nat.zero_add] at hA1 hA
    clear hqn
    generalize UInt8.ofNat q = y at *
    rcases hcs with ⟨c1, c2⟩ | ⟨c1, c2⟩
    · have hlt : (n : Int) + 1 < 9 := by omega
      have w9 : IntKind.i64.wrap (249 + ((n : Int) + 1)) = (q : Int) := by rw [wrap_i64 (by omega) (by omega)]; omega
      have w8 : IntKind.u8.wrap (q : Int) = (q : Int) := wrap_u8 (by omega) (by omega)
      simp (maxSteps := 2000000) -implicitDefEqProofs [-getElem?_pos, List.getElem?_cons_zero, List.getElem?_cons_succ, go_sem, eqV, plen, loadV, storeV, assignV, emB, hS, hb0, hC, hne, hneb, hne1, hlt, w9, w8, wn, wn2, hbs, hA1, upd, hA]
    · subst c1
      subst c2
      simp only [Nat.reduceAdd, Int.cast_ofNat_Int] at *
      simp (maxSteps := 2000000) -implicitDefEqProofs [-getElem?_pos, List.getElem?_cons_zero, List.getElem?_cons_succ, go_sem, eqV, plen, loadV, storeV, assignV, emB, hS, hb0, hC, IntKind.wrap, IntKind.bits, IntKind.signed, hbs, hA1, upd, hA]

end

theorem appendInt_ev {H : AM.Heap} {a : AV} {b : List UInt8} {x : Nat} (h : Byt H a b) (hb : b.length ≤ 80000000) (hx : x < 18446744073709551616) :
    ∃ ob, Rw (.pb (b ++ aI x)) 0 ob ∧ evT X 55 [a, .int .u64 (x : Nat)] H = some (.sl H.length 0 (b.length + szI x) 0, H ++ [some ob]) := by
  obtain ⟨c, p, xl, hp, hc, hx'⟩ := args_byt (C := X) (f := 55) (i := 0) rfl h (args_flat (i := 1) (a := .int .u64 (x : Nat)) rfl rfl (args_nil 2))
  obtain ⟨code, hcode, hr⟩ := appendInt_code c b x hc hb hx
  obtain ⟨ob, q1, q2⟩ := Ev1.newB (H := H) (n := b.length + szI x) (l := b ++ aI x) (rest := []) (evT_below X) Try.func55 hcode hx' (by simp [idsL, ids, hp.ids]) (by simp [gtag]) rfl rfl rfl (by
    obtain ⟨o, ⟨he, o1, g, ob, q1, q3, q4⟩, hrun⟩ := hr
    exact ⟨o, ⟨he, o1, g, ob, by show some [getF o.fr 4] = _; rw [q1], q3, q4⟩, by rw [par55, coB hp]; exact hrun⟩)
  exact ⟨ob, q1, evT_eq q2⟩

theorem rappendInt_ev {H : AM.Heap} {a : AV} {b : List UInt8} {x : Nat} (h : Byt H a b) (hb : b.length ≤ 80000000) (hx : x < 18446744073709551616) :
    ∃ ob, Rw (.pb (b ++ aI x)) 0 ob ∧ evT X 62 [a, .int .u64 (x : Nat)] H = some (.sl H.length 0 (b.length + szI x) 0, H ++ [some ob]) := by
  obtain ⟨c, p, xl, hp, hc, hx'⟩ := args_byt (C := X) (f := 62) (i := 0) rfl h (args_flat (i := 1) (a := .int .u64 (x : Nat)) rfl rfl (args_nil 2))
  obtain ⟨code, hcode, hr⟩ := rappendInt_code c b x hc hb hx
  obtain ⟨ob, q1, q2⟩ := Ev1.newB (H := H) (n := b.length + szI x) (l := b ++ aI x) (rest := []) (evT_below X) Try.func62 hcode hx' (by simp [idsL, ids, hp.ids]) (by simp [gtag]) rfl rfl rfl (by
    obtain ⟨o, ⟨he, o1, g, ob, q1, q3, q4⟩, hrun⟩ := hr
    exact ⟨o, ⟨he, o1, g, ob, by show some [getF o.fr 4] = _; rw [q1], q3, q4⟩, by rw [par62, coB hp]; exact hrun⟩)
  exact ⟨ob, q1, evT_eq q2⟩

/-- a counted text's bytes -/
def aT (s : List UInt8) : List UInt8 := aI s.length ++ s

section
variable (c : Nat) (b : List UInt8) (s : List UInt8)

set_option maxRecDepth 100000 in
theorem appendText_code (hc : c = 0 → b = []) (hb : b.length ≤ 40000000) (hs : s.length ≤ 40000000) : ∃ code, Try.f41.body = some code ∧
    Tells (Rets fun fr H => ∃ o g ob, getF fr 4 = .sl o 0 (b ++ aT s).length g ∧ H[o]? = some (some ob) ∧ Rw (.pb (b ++ aT s)) g ob) X (evT X) 41 0 code [(0, .ro c (.pb b) 1), (1, .str s)] [] := by
  refine ⟨_, rfl, ?_⟩
  have hsz := szI_le s.length
  have hl := aI_len s.length
  obtain ⟨ob1, hw1, hA⟩ := appendInt_ev (H := [some nilB]) (a := .ro c (.pb b) 1) (b := b) (x := s.length) (Byt.ro (.inl rfl) hc) (by omega) (by omega)
  obtain ⟨ob', hw', hA1⟩ := app_b (H := [some nilB, some ob1]) (o := 1) (m := s) (src := .str s) rfl hw1 (.inl rfl) (by simp; omega)
  have w1 : IntKind.u64.wrap (s.length : Int) = (s.length : Int) := wrap_u64 (by omega) (by omega)
  simp only [List.length_append, hl] at hA1
  refine Tells.of (o := ⟨.ret, [(4, .sl 1 0 (b.length + szI s.length + s.length) 1)], [some nilB, some ob']⟩) ?_ ⟨rfl, 1, 1, ob', by simp [getF, aT, hl]; omega, rfl, by rw [aT, ← List.append_assoc]; exact hw'⟩
  refine ⟨0, ?_⟩
  simp (maxSteps := 2000000) -implicitDefEqProofs [-getElem?_pos, List.getElem?_cons_zero, List.getElem?_cons_succ, go_sem, eqV, plen, loadV, storeV, assignV, emB, w1, hA, hA1, upd]

set_option maxRecDepth 100000 in
theorem rappendText_code (hc : c = 0 → b = []) (hb : b.length ≤ 40000000) (hs : s.length ≤ 40000000) : ∃ code, Try.f51.body = some code ∧
    Tells (Rets fun fr H => ∃ o g ob, getF fr 4 = .sl o 0 (b ++ aT s).length g ∧ H[o]? = some (some ob) ∧ Rw (.pb (b ++ aT s)) g ob) X (evT X) 51 0 code [(0, .ro c (.pb b) 1), (1, .str s)] [] := by
  refine ⟨_, rfl, ?_⟩
  have hsz := szI_le s.length
  have hl := aI_len s.length
  obtain ⟨ob1, hw1, hA⟩ := rappendInt_ev (H := [some nilB]) (a := .ro c (.pb b) 1) (b := b) (x := s.length) (Byt.ro (.inl rfl) hc) (by omega) (by omega)
  obtain ⟨ob', hw', hA1⟩ := app_b (H := [some nilB, some ob1]) (o := 1) (m := s) (src := .str s) rfl hw1 (.inl rfl) (by simp; omega)
  have w1 : IntKind.u64.wrap (s.length : Int) = (s.length : Int) := wrap_u64 (by omega) (by omega)
  simp only [List.length_append, hl] at hA1
  refine Tells.of (o := ⟨.ret, [(4, .sl 1 0 (b.length + szI s.length + s.length) 1)], [some nilB, some ob']⟩) ?_ ⟨rfl, 1, 1, ob', by simp [getF, aT, hl]; omega, rfl, by rw [aT, ← List.append_assoc]; exact hw'⟩
  refine ⟨0, ?_⟩
  simp (maxSteps := 2000000) -implicitDefEqProofs [-getElem?_pos, List.getElem?_cons_zero, List.getElem?_cons_succ, go_sem, eqV, plen, loadV, storeV, assignV, emB, w1, hA, hA1, upd]

end

theorem appendText_ev {H : AM.Heap} {a : AV} {b s : List UInt8} (h : Byt H a b) (hb : b.length ≤ 40000000) (hs : s.length ≤ 40000000) :
    ∃ ob, Rw (.pb (b ++ aT s)) 0 ob ∧ evT X 41 [a, .str s] H = some (.sl H.length 0 (b ++ aT s).length 0, H ++ [some ob]) := by
  obtain ⟨c, p, xl, hp, hc, hx'⟩ := args_byt (C := X) (f := 41) (i := 0) rfl h (args_flat (i := 1) (a := .str s) rfl rfl (args_nil 2))
  obtain ⟨code, hcode, hr⟩ := appendText_code c b s hc hb hs
  obtain ⟨ob, q1, q2⟩ := Ev1.newB (H := H) (n := (b ++ aT s).length) (l := b ++ aT s) (rest := []) (evT_below X) Try.func41 hcode hx' (by simp [idsL, ids, hp.ids]) (by simp [gtag]) rfl rfl rfl (by
    obtain ⟨o, ⟨he, o1, g, ob, q1, q3, q4⟩, hrun⟩ := hr
    exact ⟨o, ⟨he, o1, g, ob, by show some [getF o.fr 4] = _; rw [q1], q3, q4⟩, by rw [par41, coB hp]; exact hrun⟩)
  exact ⟨ob, q1, evT_eq q2⟩

theorem rappendText_ev {H : AM.Heap} {a : AV} {b s : List UInt8} (h : Byt H a b) (hb : b.length ≤ 40000000) (hs : s.length ≤ 40000000) :
    ∃ ob, Rw (.pb (b ++ aT s)) 0 ob ∧ evT X 51 [a, .str s] H = some (.sl H.length 0 (b ++ aT s).length 0, H ++ [some ob]) := by
  obtain ⟨c, p, xl, hp, hc, hx'⟩ := args_byt (C := X) (f := 51) (i := 0) rfl h (args_flat (i := 1) (a := .str s) rfl rfl (args_nil 2))
  obtain ⟨code, hcode, hr⟩ := rappendText_code c b s hc hb hs
  obtain ⟨ob, q1, q2⟩ := Ev1.newB (H := H) (n := (b ++ aT s).length) (l := b ++ aT s) (rest := []) (evT_below X) Try.func51 hcode hx' (by simp [idsL, ids, hp.ids]) (by simp [gtag]) rfl rfl rfl (by
    obtain ⟨o, ⟨he, o1, g, ob, q1, q3, q4⟩, hrun⟩ := hr
    exact ⟨o, ⟨he, o1, g, ob, by show some [getF o.fr 4] = _; rw [q1], q3, q4⟩, by rw [par51, coB hp]; exact hrun⟩)
  exact ⟨ob, q1, evT_eq q2⟩

end Go.Proofs.Ytbmddnokokoofaa
