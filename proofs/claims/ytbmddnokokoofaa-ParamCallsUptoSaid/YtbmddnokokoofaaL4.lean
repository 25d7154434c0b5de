/- Walks: counted texts, read. -/
import Derived.Test.YtbmddnokokoofaaL2
namespace Go.Proofs.Ytbmddnokokoofaa
open Go.AM
set_option linter.unusedSimpArgs false
set_option linter.unusedVariables false

theorem slMid {c t m n : Nat} {b : List UInt8} (hn : m + n ≤ b.length) (H : AM.Heap) : sliceV X H 22 (.ro c (.pb b) t) (some (.int .i64 (m : Nat))) (some (.int .i64 ((m + n : Nat) : Int))) = some (.ro (if c = 0 then 0 else 2) (.pb ((b.drop m).take n)) t) := by
  have h1 : ((m + n : Nat) : Int) ≤ (b.length : Int) := by omega
  have h2 : (m : Int) ≤ ((m + n : Nat) : Int) := by omega
  have h3 : m + (m + n - m) ≤ b.length := by omega
  have h4 : m + n - m = n := by omega
  have h5 : (0 : Int) ≤ ((m + n : Nat) : Int) := by omega
  generalize hk : m + n = k at *
  have h6 : m + n ≤ b.length := by omega
  simp [sliceV, bound, plen, pesz, psub, h1, h2, h3, h4, h5, h6]

section
variable (c : Nat) (b : List UInt8)

set_option maxRecDepth 100000 in
theorem readText_code (hc : c = 0 → b = []) (hb : b.length ≤ 90000000) : ∃ code, Try.f44.body = some code ∧
    Run X (evT X) 44 0 code [(0, .ro c (.pb b) 1)] [] ⟨.ret, [(2, .str (rdT b).1), (3, .int .i64 ((rdT b).2.1 : Nat)), (4, .int .i64 (rdT b).2.2)], []⟩ := by
  refine ⟨_, rfl, 0, ?_⟩
  have hI := readInt_ev (H := []) (a := .ro c (.pb b) 1) (b := b) (Byt.ro (.inl rfl) hc) hb
  have hle := rdI_le (b := b)
  have hlt := rdI_lt b
  unfold rdT
  generalize rdI b = r at *
  obtain ⟨x, m, e⟩ := r
  simp only at hI hle hlt ⊢
  by_cases he : e = 0
  · subst he
    obtain ⟨h1, h2⟩ := hle rfl
    rw [if_neg (by simp)]
    have w1 : IntKind.i64.wrap ((b.length : Int) - (m : Int)) = ((b.length - m : Nat) : Int) := by rw [wrap_i64 (by omega) (by omega)]; omega
    have w2 : IntKind.u64.wrap ((b.length - m : Nat) : Int) = ((b.length - m : Nat) : Int) := wrap_u64 (by omega) (by omega)
    by_cases hx : b.length - m < x
    · rw [if_pos hx]
      have hxi : ((b.length - m : Nat) : Int) < (x : Int) := by omega
      generalize b.length - m = z at *
      simp (maxSteps := 2000000) -implicitDefEqProofs [-getElem?_pos, List.getElem?_cons_zero, List.getElem?_cons_succ, go_sem, eqV, plen, loadV, storeV, hI, w1, w2, hxi]
    · rw [if_neg hx]
      have hxi : ¬ ((b.length - m : Nat) : Int) < (x : Int) := by omega
      have w3 : IntKind.i64.wrap (x : Int) = (x : Int) := wrap_i64 (by omega) (by omega)
      have w4 : IntKind.i64.wrap ((m : Int) + (x : Int)) = ((m + x : Nat) : Int) := by rw [wrap_i64 (by omega) (by omega)]; omega
      have hS := fun H => slMid (c := c) (t := 1) (m := m) (n := x) (b := b) (by omega) H
      generalize m + x = k at *
      generalize b.length - m = z at *
      simp (maxSteps := 2000000) -implicitDefEqProofs [-getElem?_pos, List.getElem?_cons_zero, List.getElem?_cons_succ, go_sem, eqV, plen, loadV, storeV, hI, w1, w2, hxi, w3, w4, hS, readSl]
  · have heb : (e != 0) = true := by simpa using he
    rw [if_pos he]
    simp (maxSteps := 2000000) -implicitDefEqProofs [-getElem?_pos, List.getElem?_cons_zero, List.getElem?_cons_succ, go_sem, eqV, plen, loadV, storeV, hI, he, heb]

set_option maxRecDepth 100000 in
theorem rreadText_code (hc : c = 0 → b = []) (hb : b.length ≤ 90000000) : ∃ code, Try.f72.body = some code ∧
    Run X (evT X) 72 0 code [(0, .ro c (.pb b) 1)] [] ⟨.ret, [(2, .str (rdT b).1), (3, .int .i64 ((rdT b).2.1 : Nat)), (4, .int .i64 (rdT b).2.2)], []⟩ := by
  refine ⟨_, rfl, 0, ?_⟩
  have hI := rreadInt_ev (H := []) (a := .ro c (.pb b) 1) (b := b) (Byt.ro (.inl rfl) hc) hb
  have hle := rdI_le (b := b)
  have hlt := rdI_lt b
  unfold rdT
  generalize rdI b = r at *
  obtain ⟨x, m, e⟩ := r
  simp only at hI hle hlt ⊢
  by_cases he : e = 0
  · subst he
    obtain ⟨h1, h2⟩ := hle rfl
    rw [if_neg (by simp)]
    have w1 : IntKind.i64.wrap ((b.length : Int) - (m : Int)) = ((b.length - m : Nat) : Int) := by rw [wrap_i64 (by omega) (by omega)]; omega
    have w2 : IntKind.u64.wrap ((b.length - m : Nat) : Int) = ((b.length - m : Nat) : Int) := wrap_u64 (by omega) (by omega)
    by_cases hx : b.length - m < x
    · rw [if_pos hx]
      have hxi : ((b.length - m : Nat) : Int) < (x : Int) := by omega
      generalize b.length - m = z at *
      simp (maxSteps := 2000000) -implicitDefEqProofs [-getElem?_pos, List.getElem?_cons_zero, List.getElem?_cons_succ, go_sem, eqV, plen, loadV, storeV, hI, w1, w2, hxi]
    · rw [if_neg hx]
      have hxi : ¬ ((b.length - m : Nat) : Int) < (x : Int) := by omega
      have w3 : IntKind.i64.wrap (x : Int) = (x : Int) := wrap_i64 (by omega) (by omega)
      have w4 : IntKind.i64.wrap ((m : Int) + (x : Int)) = ((m + x : Nat) : Int) := by rw [wrap_i64 (by omega) (by omega)]; omega
      have hS := fun H => slMid (c := c) (t := 1) (m := m) (n := x) (b := b) (by omega) H
      generalize m + x = k at *
      generalize b.length - m = z at *
      simp (maxSteps := 2000000) -implicitDefEqProofs [-getElem?_pos, List.getElem?_cons_zero, List.getElem?_cons_succ, go_sem, eqV, plen, loadV, storeV, hI, w1, w2, hxi, w3, w4, hS, readSl]
  · have heb : (e != 0) = true := by simpa using he
    rw [if_pos he]
    simp (maxSteps := 2000000) -implicitDefEqProofs [-getElem?_pos, List.getElem?_cons_zero, List.getElem?_cons_succ, go_sem, eqV, plen, loadV, storeV, hI, he, heb]

end

theorem readText_ev {H : AM.Heap} {a : AV} {b : List UInt8} (h : Byt H a b) (hb : b.length ≤ 90000000) :
    evT X 44 [a] H = some (.tup [.str (rdT b).1, .int .i64 ((rdT b).2.1 : Nat), .int .i64 (rdT b).2.2], H) := by
  obtain ⟨c, p, xl, hp, hc, hx'⟩ := args_byt (C := X) (f := 44) (i := 0) rfl h (args_nil 1)
  obtain ⟨code, hcode, hr⟩ := readText_code c b hc hb
  refine evT_eq (Ev1.toldP (l := [.str (rdT b).1, .int .i64 ((rdT b).2.1 : Nat), .int .i64 (rdT b).2.2]) (evT_below X) Try.func44 hcode hx' (by simp [idsL, ids, hp.ids]) (by simp [gtag]) rfl rfl rfl ?_)
  rw [par44, coB hp]
  exact ⟨_, ⟨rfl, rfl⟩, hr⟩

theorem rreadText_ev {H : AM.Heap} {a : AV} {b : List UInt8} (h : Byt H a b) (hb : b.length ≤ 90000000) :
    evT X 72 [a] H = some (.tup [.str (rdT b).1, .int .i64 ((rdT b).2.1 : Nat), .int .i64 (rdT b).2.2], H) := by
  obtain ⟨c, p, xl, hp, hc, hx'⟩ := args_byt (C := X) (f := 72) (i := 0) rfl h (args_nil 1)
  obtain ⟨code, hcode, hr⟩ := rreadText_code c b hc hb
  refine evT_eq (Ev1.toldP (l := [.str (rdT b).1, .int .i64 ((rdT b).2.1 : Nat), .int .i64 (rdT b).2.2]) (evT_below X) Try.func72 hcode hx' (by simp [idsL, ids, hp.ids]) (by simp [gtag]) rfl rfl rfl ?_)
  rw [par72, coB hp]
  exact ⟨_, ⟨rfl, rfl⟩, hr⟩

end Go.Proofs.Ytbmddnokokoofaa
