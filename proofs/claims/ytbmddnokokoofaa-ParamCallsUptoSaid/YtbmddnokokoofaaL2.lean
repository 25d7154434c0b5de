/- Walks: counted numbers, read. -/
import Derived.Test.YtbmddnokokoofaaL1
namespace Go.Proofs.Ytbmddnokokoofaa
open Go.AM
set_option linter.unusedSimpArgs false
set_option linter.unusedVariables false

theorem rf0_ev {H : AM.Heap} {a : AV} {b : List UInt8} {n : Nat} (h : Byt H a b) (hb : b.length ≤ 90000000) :
    evT X 45 [a, .int .i64 (n : Nat)] H = some (.tup [.int .u64 (rfR b n).1, .int .i64 (rfR b n).2], H) := by
  obtain ⟨c, p, xl, hp, hc, hx'⟩ := args_byt (C := X) (f := 45) (i := 0) rfl h (args_flat (i := 1) (a := .int .i64 (n : Nat)) rfl rfl (args_nil 2))
  obtain ⟨code, hcode, hr⟩ := readFixed_code (evT X) c b n (by omega)
  refine evT_eq (Ev1.toldP (l := [.int .u64 (rfR b n).1, .int .i64 (rfR b n).2]) (evT_below X) Try.func45 hcode hx' (by simp [idsL, ids, hp.ids]) (by simp [gtag]) rfl rfl rfl ?_)
  rw [par45, coB hp]
  exact ⟨_, ⟨rfl, rfl⟩, hr⟩

theorem rrf0_ev {H : AM.Heap} {a : AV} {b : List UInt8} {n : Nat} (h : Byt H a b) (hb : b.length ≤ 90000000) :
    evT X 70 [a, .int .i64 (n : Nat)] H = some (.tup [.int .u64 (rfR b n).1, .int .i64 (rfR b n).2], H) := by
  obtain ⟨c, p, xl, hp, hc, hx'⟩ := args_byt (C := X) (f := 70) (i := 0) rfl h (args_flat (i := 1) (a := .int .i64 (n : Nat)) rfl rfl (args_nil 2))
  obtain ⟨code, hcode, hr⟩ := rreadFixed_code (evT X) c b n (by omega)
  refine evT_eq (Ev1.toldP (l := [.int .u64 (rfR b n).1, .int .i64 (rfR b n).2]) (evT_below X) Try.func70 hcode hx' (by simp [idsL, ids, hp.ids]) (by simp [gtag]) rfl rfl rfl ?_)
  rw [par70, coB hp]
  exact ⟨_, ⟨rfl, rfl⟩, hr⟩

theorem slFrom0 {c t n : Nat} {b : List UInt8} (hc : c = 0 → b = []) (hn : n ≤ b.length) (H : AM.Heap) : sliceV X H 22 (.ro c (.pb b) t) (some (.int .i64 (n : Nat))) none = some (.ro c (.pb (b.drop n)) t) := by
  have hcc : (if c = 0 then 0 else c) = c := by split <;> omega
  have hnl : (n : Int) ≤ (b.length : Int) := by omega
  have hle : n + (b.length - n) ≤ b.length := by omega
  have ht : List.take (b.length - n) (b.drop n) = b.drop n := by rw [List.take_of_length_le (by simp)]
  simp [sliceV, bound, plen, pesz, psub, hnl, hcc, hle, ht]

/-- what is read of a first byte that has n behind it -/
def rdN' (t : List UInt8) (n : Nat) : Nat × Nat × Int := if t.length < n then (0, 0, 4) else (leV (t.take n), n + 1, 0)

theorem rdI_cons (y : UInt8) (t : List UInt8) : rdI (y :: t) = if y.toNat = 251 ∨ y.toNat = 255 then (0, 0, 5) else if y.toNat ≤ 250 then (y.toNat, 1, 0) else rdN' t (bsz y.toNat) := rfl

theorem beq_f {a : Nat} {n : Int} (h : (a : Int) ≠ n) : ((a : Int) == n) = false := by simpa using h

section
variable (c : Nat) (b : List UInt8)

set_option maxRecDepth 100000 in
theorem readInt_code (hc : c = 0 → b = []) (hb : b.length ≤ 90000000) : ∃ code, Try.f57.body = some code ∧
    Run X (evT X) 57 0 code [(0, .ro c (.pb b) 1)] [] ⟨.ret, [(2, .int .u64 ((rdI b).1 : Nat)), (3, .int .i64 ((rdI b).2.1 : Nat)), (4, .int .i64 (rdI b).2.2)], []⟩ := by
  refine ⟨_, rfl, ?_⟩
  match b with
  | [] =>
    refine ⟨0, ?_⟩
    simp (maxSteps := 2000000) -implicitDefEqProofs [-getElem?_pos, List.getElem?_cons_zero, List.getElem?_cons_succ, go_sem, eqV, plen, loadV, storeV, rdI]
  | y :: t =>
    rw [rdI_cons]
    have hy : (y :: t)[0]? = some y := rfl
    have hl : 0 < (y :: t).length := by simp
    have hl0 : ¬ (y :: t).length = 0 := by simp
    have hsl := fun H => slFrom0 (t := 1) hc (show 1 ≤ (y :: t).length by simp) H
    have hbt : ∀ n : Nat, evT X 45 [.ro c (.pb t) 1, .int .i64 (n : Nat)] [] = some (.tup [.int .u64 (rfR t n).1, .int .i64 (rfR t n).2], []) := fun n => rf0_ev (Byt.ro (.inl rfl) (fun h => by have := hc h; simp at this)) (by simp at hb; omega)
    simp only [List.drop_succ_cons, List.drop_zero, Int.cast_ofNat_Int] at hsl
    have hyl := y.toNat_lt
    have key : ∀ n : Nat, 1 ≤ n → n ≤ 8 → rfR t n = ((((rdN' t n).1 : Nat) : Int), (rdN' t n).2.2) ∧ ((rdN' t n).2.2 = 0 ∧ (rdN' t n).2.1 = n + 1 ∨ (rdN' t n).2.2 = 4 ∧ (rdN' t n).2.1 = 0 ∧ (rdN' t n).1 = 0) := by
      intro n h1 h8
      unfold rfR rdN'
      rw [if_neg (by omega)]
      by_cases h : t.length < n
      · rw [if_pos (by omega), if_pos h]; exact ⟨rfl, .inr ⟨rfl, rfl, rfl⟩⟩
      · rw [if_neg (by omega), if_neg h, Int.toNat_natCast]; exact ⟨rfl, .inl ⟨rfl, rfl⟩⟩
    have wy : IntKind.u64.wrap (y.toNat : Int) = (y.toNat : Int) := wrap_u64 (by omega) (by omega)
    by_cases h1 : y.toNat = 251
    · rw [if_pos (.inl h1)]
      generalize y :: t = l at *
      refine ⟨0, ?_⟩
      simp (maxSteps := 2000000) -implicitDefEqProofs [-getElem?_pos, List.getElem?_cons_zero, List.getElem?_cons_succ, go_sem, eqV, plen, loadV, storeV, hy, hl, hl0, h1]
    by_cases h2 : y.toNat = 255
    · rw [if_pos (.inr h2)]
      generalize y :: t = l at *
      refine ⟨0, ?_⟩
      simp (maxSteps := 2000000) -implicitDefEqProofs [-getElem?_pos, List.getElem?_cons_zero, List.getElem?_cons_succ, go_sem, eqV, plen, loadV, storeV, hy, hl, hl0, h2]
    rw [if_neg (by omega)]
    by_cases h3 : y.toNat ≤ 250
    · rw [if_pos h3]
      have e1 : (y.toNat : Int) ≠ 251 := by omega
      have e2 : (y.toNat : Int) ≠ 252 := by omega
      have e3 : (y.toNat : Int) ≠ 253 := by omega
      have e4 : (y.toNat : Int) ≠ 254 := by omega
      have e5 : (y.toNat : Int) ≠ 255 := by omega
      have f1 := beq_f e1
      have f2 := beq_f e2
      have f3 := beq_f e3
      have f4 := beq_f e4
      have f5 := beq_f e5
      generalize y :: t = l at *
      refine ⟨0, ?_⟩
      simp (maxSteps := 2000000) -implicitDefEqProofs [-getElem?_pos, List.getElem?_cons_zero, List.getElem?_cons_succ, go_sem, eqV, plen, loadV, storeV, hy, hl, hl0, e1, e2, e3, e4, e5, f1, f2, f3, f4, f5, wy]
    rw [if_neg h3]
    have hcases : y.toNat = 252 ∨ y.toNat = 253 ∨ y.toNat = 254 := by omega
    rcases hcases with h | h | h
    · have hk := key 2 (by omega) (by omega)
      have hB := hbt 2
      have hz : bsz y.toNat = 2 := by rw [h]; rfl
      rw [hz]
      rw [hk.1] at hB
      generalize y :: t = l at *
      rcases hk.2 with ⟨q1, q2⟩ | ⟨q1, q2, q3⟩
      · refine ⟨0, ?_⟩
        rw [q1] at hB
        simp only [Int.cast_ofNat_Int] at hB
        simp (maxSteps := 2000000) -implicitDefEqProofs [-getElem?_pos, List.getElem?_cons_zero, List.getElem?_cons_succ, go_sem, eqV, plen, loadV, storeV, hy, hl, hl0, h, hsl, hB, q1, q2, IntKind.wrap, IntKind.bits, IntKind.signed]
      · refine ⟨0, ?_⟩
        rw [q1] at hB
        simp only [Int.cast_ofNat_Int] at hB
        simp (maxSteps := 2000000) -implicitDefEqProofs [-getElem?_pos, List.getElem?_cons_zero, List.getElem?_cons_succ, go_sem, eqV, plen, loadV, storeV, hy, hl, hl0, h, hsl, hB, q1, q2, q3]
    · have hk := key 3 (by omega) (by omega)
      have hB := hbt 3
      have hz : bsz y.toNat = 3 := by rw [h]; rfl
      rw [hz]
      rw [hk.1] at hB
      generalize y :: t = l at *
      rcases hk.2 with ⟨q1, q2⟩ | ⟨q1, q2, q3⟩
      · refine ⟨0, ?_⟩
        rw [q1] at hB
        simp only [Int.cast_ofNat_Int] at hB
        simp (maxSteps := 2000000) -implicitDefEqProofs [-getElem?_pos, List.getElem?_cons_zero, List.getElem?_cons_succ, go_sem, eqV, plen, loadV, storeV, hy, hl, hl0, h, hsl, hB, q1, q2, IntKind.wrap, IntKind.bits, IntKind.signed]
      · refine ⟨0, ?_⟩
        rw [q1] at hB
        simp only [Int.cast_ofNat_Int] at hB
        simp (maxSteps := 2000000) -implicitDefEqProofs [-getElem?_pos, List.getElem?_cons_zero, List.getElem?_cons_succ, go_sem, eqV, plen, loadV, storeV, hy, hl, hl0, h, hsl, hB, q1, q2, q3]
    · have hk := key 8 (by omega) (by omega)
      have hB := hbt 8
      have hz : bsz y.toNat = 8 := by rw [h]; rfl
      rw [hz]
      rw [hk.1] at hB
      generalize y :: t = l at *
      rcases hk.2 with ⟨q1, q2⟩ | ⟨q1, q2, q3⟩
      · refine ⟨0, ?_⟩
        rw [q1] at hB
        simp only [Int.cast_ofNat_Int] at hB
        simp (maxSteps := 2000000) -implicitDefEqProofs [-getElem?_pos, List.getElem?_cons_zero, List.getElem?_cons_succ, go_sem, eqV, plen, loadV, storeV, hy, hl, hl0, h, hsl, hB, q1, q2, IntKind.wrap, IntKind.bits, IntKind.signed]
      · refine ⟨0, ?_⟩
        rw [q1] at hB
        simp only [Int.cast_ofNat_Int] at hB
        simp (maxSteps := 2000000) -implicitDefEqProofs [-getElem?_pos, List.getElem?_cons_zero, List.getElem?_cons_succ, go_sem, eqV, plen, loadV, storeV, hy, hl, hl0, h, hsl, hB, q1, q2, q3]

set_option maxRecDepth 100000 in
theorem rreadInt_code (hc : c = 0 → b = []) (hb : b.length ≤ 90000000) : ∃ code, Try.f73.body = some code ∧
    Run X (evT X) 73 0 code [(0, .ro c (.pb b) 1)] [] ⟨.ret, [(2, .int .u64 ((rdI b).1 : Nat)), (3, .int .i64 ((rdI b).2.1 : Nat)), (4, .int .i64 (rdI b).2.2)], []⟩ := by
  refine ⟨_, rfl, ?_⟩
  match b with
  | [] =>
    refine ⟨0, ?_⟩
    simp (maxSteps := 2000000) -implicitDefEqProofs [-getElem?_pos, List.getElem?_cons_zero, List.getElem?_cons_succ, go_sem, eqV, plen, loadV, storeV, rdI]
  | y :: t =>
    rw [rdI_cons]
    have hy : (y :: t)[0]? = some y := rfl
    have hl : 0 < (y :: t).length := by simp
    have hl0 : ¬ (y :: t).length = 0 := by simp
    have hsl := fun H => slFrom0 (t := 1) hc (show 1 ≤ (y :: t).length by simp) H
    have hbt : ∀ n : Nat, evT X 70 [.ro c (.pb t) 1, .int .i64 (n : Nat)] [] = some (.tup [.int .u64 (rfR t n).1, .int .i64 (rfR t n).2], []) := fun n => rrf0_ev (Byt.ro (.inl rfl) (fun h => by have := hc h; simp at this)) (by simp at hb; omega)
    simp only [List.drop_succ_cons, List.drop_zero, Int.cast_ofNat_Int] at hsl
    have hyl := y.toNat_lt
    have key : ∀ n : Nat, 1 ≤ n → n ≤ 8 → rfR t n = ((((rdN' t n).1 : Nat) : Int), (rdN' t n).2.2) ∧ ((rdN' t n).2.2 = 0 ∧ (rdN' t n).2.1 = n + 1 ∨ (rdN' t n).2.2 = 4 ∧ (rdN' t n).2.1 = 0 ∧ (rdN' t n).1 = 0) := by
      intro n h1 h8
      unfold rfR rdN'
      rw [if_neg (by omega)]
      by_cases h : t.length < n
      · rw [if_pos (by omega), if_pos h]; exact ⟨rfl, .inr ⟨rfl, rfl, rfl⟩⟩
      · rw [if_neg (by omega), if_neg h, Int.toNat_natCast]; exact ⟨rfl, .inl ⟨rfl, rfl⟩⟩
    have wy : IntKind.u64.wrap (y.toNat : Int) = (y.toNat : Int) := wrap_u64 (by omega) (by omega)
    by_cases h1 : y.toNat = 251
    · rw [if_pos (.inl h1)]
      generalize y :: t = l at *
      refine ⟨0, ?_⟩
      simp (maxSteps := 2000000) -implicitDefEqProofs [-getElem?_pos, List.getElem?_cons_zero, List.getElem?_cons_succ, go_sem, eqV, plen, loadV, storeV, hy, hl, hl0, h1]
    by_cases h2 : y.toNat = 255
    · rw [if_pos (.inr h2)]
      generalize y :: t = l at *
      refine ⟨0, ?_⟩
      simp (maxSteps := 2000000) -implicitDefEqProofs [-getElem?_pos, List.getElem?_cons_zero, List.getElem?_cons_succ, go_sem, eqV, plen, loadV, storeV, hy, hl, hl0, h2]
    rw [if_neg (by omega)]
    by_cases h3 : y.toNat ≤ 250
    · rw [if_pos h3]
      have e1 : (y.toNat : Int) ≤ 250 := by omega
      generalize y :: t = l at *
      refine ⟨0, ?_⟩
      simp (maxSteps := 2000000) -implicitDefEqProofs [-getElem?_pos, List.getElem?_cons_zero, List.getElem?_cons_succ, go_sem, eqV, plen, loadV, storeV, hy, hl, hl0, e1, wy]
    rw [if_neg h3]
    have hcases : y.toNat = 252 ∨ y.toNat = 253 ∨ y.toNat = 254 := by omega
    rcases hcases with h | h | h
    · have hk := key 2 (by omega) (by omega)
      have hB := hbt 2
      have hz : bsz y.toNat = 2 := by rw [h]; rfl
      rw [hz]
      rw [hk.1] at hB
      generalize y :: t = l at *
      rcases hk.2 with ⟨q1, q2⟩ | ⟨q1, q2, q3⟩
      · refine ⟨0, ?_⟩
        rw [q1] at hB
        simp only [Int.cast_ofNat_Int] at hB
        simp (maxSteps := 2000000) -implicitDefEqProofs [-getElem?_pos, List.getElem?_cons_zero, List.getElem?_cons_succ, go_sem, eqV, plen, loadV, storeV, hy, hl, hl0, h, hsl, hB, q1, q2, IntKind.wrap, IntKind.bits, IntKind.signed]
      · refine ⟨0, ?_⟩
        rw [q1] at hB
        simp only [Int.cast_ofNat_Int] at hB
        simp (maxSteps := 2000000) -implicitDefEqProofs [-getElem?_pos, List.getElem?_cons_zero, List.getElem?_cons_succ, go_sem, eqV, plen, loadV, storeV, hy, hl, hl0, h, hsl, hB, q1, q2, q3, IntKind.wrap, IntKind.bits, IntKind.signed]
    · have hk := key 3 (by omega) (by omega)
      have hB := hbt 3
      have hz : bsz y.toNat = 3 := by rw [h]; rfl
      rw [hz]
      rw [hk.1] at hB
      generalize y :: t = l at *
      rcases hk.2 with ⟨q1, q2⟩ | ⟨q1, q2, q3⟩
      · refine ⟨0, ?_⟩
        rw [q1] at hB
        simp only [Int.cast_ofNat_Int] at hB
        simp (maxSteps := 2000000) -implicitDefEqProofs [-getElem?_pos, List.getElem?_cons_zero, List.getElem?_cons_succ, go_sem, eqV, plen, loadV, storeV, hy, hl, hl0, h, hsl, hB, q1, q2, IntKind.wrap, IntKind.bits, IntKind.signed]
      · refine ⟨0, ?_⟩
        rw [q1] at hB
        simp only [Int.cast_ofNat_Int] at hB
        simp (maxSteps := 2000000) -implicitDefEqProofs [-getElem?_pos, List.getElem?_cons_zero, List.getElem?_cons_succ, go_sem, eqV, plen, loadV, storeV, hy, hl, hl0, h, hsl, hB, q1, q2, q3, IntKind.wrap, IntKind.bits, IntKind.signed]
    · have hk := key 8 (by omega) (by omega)
      have hB := hbt 8
      have hz : bsz y.toNat = 8 := by rw [h]; rfl
      rw [hz]
      rw [hk.1] at hB
      generalize y :: t = l at *
      rcases hk.2 with ⟨q1, q2⟩ | ⟨q1, q2, q3⟩
      · refine ⟨0, ?_⟩
        rw [q1] at hB
        simp only [Int.cast_ofNat_Int] at hB
        simp (maxSteps := 2000000) -implicitDefEqProofs [-getElem?_pos, List.getElem?_cons_zero, List.getElem?_cons_succ, go_sem, eqV, plen, loadV, storeV, hy, hl, hl0, h, hsl, hB, q1, q2, IntKind.wrap, IntKind.bits, IntKind.signed]
      · refine ⟨0, ?_⟩
        rw [q1] at hB
        simp only [Int.cast_ofNat_Int] at hB
        simp (maxSteps := 2000000) -implicitDefEqProofs [-getElem?_pos, List.getElem?_cons_zero, List.getElem?_cons_succ, go_sem, eqV, plen, loadV, storeV, hy, hl, hl0, h, hsl, hB, q1, q2, q3, IntKind.wrap, IntKind.bits, IntKind.signed]

end

theorem readInt_ev {H : AM.Heap} {a : AV} {b : List UInt8} (h : Byt H a b) (hb : b.length ≤ 90000000) :
    evT X 57 [a] H = some (.tup [.int .u64 ((rdI b).1 : Nat), .int .i64 ((rdI b).2.1 : Nat), .int .i64 (rdI b).2.2], H) := by
  obtain ⟨c, p, xl, hp, hc, hx'⟩ := args_byt (C := X) (f := 57) (i := 0) rfl h (args_nil 1)
  obtain ⟨code, hcode, hr⟩ := readInt_code c b hc hb
  refine evT_eq (Ev1.toldP (l := [.int .u64 ((rdI b).1 : Nat), .int .i64 ((rdI b).2.1 : Nat), .int .i64 (rdI b).2.2]) (evT_below X) Try.func57 hcode hx' (by simp [idsL, ids, hp.ids]) (by simp [gtag]) rfl rfl rfl ?_)
  rw [par57, coB hp]
  exact ⟨_, ⟨rfl, rfl⟩, hr⟩

theorem rreadInt_ev {H : AM.Heap} {a : AV} {b : List UInt8} (h : Byt H a b) (hb : b.length ≤ 90000000) :
    evT X 73 [a] H = some (.tup [.int .u64 ((rdI b).1 : Nat), .int .i64 ((rdI b).2.1 : Nat), .int .i64 (rdI b).2.2], H) := by
  obtain ⟨c, p, xl, hp, hc, hx'⟩ := args_byt (C := X) (f := 73) (i := 0) rfl h (args_nil 1)
  obtain ⟨code, hcode, hr⟩ := rreadInt_code c b hc hb
  refine evT_eq (Ev1.toldP (l := [.int .u64 ((rdI b).1 : Nat), .int .i64 ((rdI b).2.1 : Nat), .int .i64 (rdI b).2.2]) (evT_below X) Try.func73 hcode hx' (by simp [idsL, ids, hp.ids]) (by simp [gtag]) rfl rfl rfl ?_)
  rw [par73, coB hp]
  exact ⟨_, ⟨rfl, rfl⟩, hr⟩

end Go.Proofs.Ytbmddnokokoofaa
