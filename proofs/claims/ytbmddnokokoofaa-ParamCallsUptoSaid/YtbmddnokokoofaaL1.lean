/- Walks: counted numbers and texts, read. -/
import Derived.Test.YtbmddnokokoofaaG2
namespace Go.Proofs.Ytbmddnokokoofaa
open Go.AM
set_option linter.unusedSimpArgs false
set_option linter.unusedVariables false

/-- a counted number's size -/
def szI (x : Nat) : Nat := if x ≤ 250 then 1 else if x < 65536 then 3 else if x < 16777216 then 4 else 9
/-- its first byte, none for a short one; the bytes behind -/
def frm (x : Nat) : Nat × Nat := if x ≤ 250 then (0, 1) else if x < 65536 then (252, 2) else if x < 16777216 then (253, 3) else (254, 8)
/-- how many bytes stand behind a first byte -/
def bsz (h : Nat) : Nat := if h = 254 then 8 else h - 250
theorem bsz_le {h : Nat} (h1 : ¬ (h = 251 ∨ h = 255)) (h2 : ¬ h ≤ 250) (h3 : h < 256) : 1 ≤ bsz h ∧ bsz h ≤ 8 := by
  unfold bsz; split <;> omega
/-- a counted number read: its value, its size, the error -/
def rdI (b : List UInt8) : Nat × Nat × Int :=
  match b with
  | [] => (0, 0, 4)
  | h :: t =>
    if h.toNat = 251 ∨ h.toNat = 255 then (0, 0, 5) else if h.toNat ≤ 250 then (h.toNat, 1, 0)
    else if t.length < bsz h.toNat then (0, 0, 4) else (leV (t.take (bsz h.toNat)), bsz h.toNat + 1, 0)
/-- a counted text read -/
def rdT (b : List UInt8) : List UInt8 × Nat × Int :=
  if (rdI b).2.2 ≠ 0 then ([], 0, (rdI b).2.2) else if b.length - (rdI b).2.1 < (rdI b).1 then ([], 0, 4) else ((b.drop (rdI b).2.1).take (rdI b).1, (rdI b).2.1 + (rdI b).1, 0)

theorem rdI_le {b : List UInt8} (h : (rdI b).2.2 = 0) : (rdI b).2.1 ≤ b.length ∧ 1 ≤ (rdI b).2.1 := by
  unfold rdI at h ⊢
  match b with
  | [] => simp at h
  | y :: t =>
    simp only at h ⊢
    by_cases h1 : y.toNat = 251 ∨ y.toNat = 255
    · rw [if_pos h1] at h; simp at h
    · rw [if_neg h1] at h ⊢
      by_cases h2 : y.toNat ≤ 250
      · rw [if_pos h2]; simp
      · rw [if_neg h2] at h ⊢
        generalize bsz y.toNat = n at *
        by_cases h3 : t.length < n
        · rw [if_pos h3] at h; simp at h
        · rw [if_neg h3]
          simp only [List.length_cons]; omega

theorem rdI_lt (b : List UInt8) : (rdI b).1 < 18446744073709551616 := by
  unfold rdI
  match b with
  | [] => simp
  | y :: t =>
    simp only
    have hy := y.toNat_lt
    by_cases h1 : y.toNat = 251 ∨ y.toNat = 255
    · rw [if_pos h1]; simp
    · rw [if_neg h1]
      by_cases h2 : y.toNat ≤ 250
      · rw [if_pos h2]; simp only; omega
      · rw [if_neg h2]
        have hb := (bsz_le h1 h2 hy).2
        generalize bsz y.toNat = n at *
        by_cases h3 : t.length < n
        · rw [if_pos h3]; simp
        · rw [if_neg h3]
          have h4 := leV_lt (t.take n)
          have h5 : (t.take n).length ≤ 8 := by rw [List.length_take]; omega
          have h6 : 256 ^ (t.take n).length ≤ 256 ^ 8 := Nat.pow_le_pow_right (by omega) h5
          exact Nat.lt_of_lt_of_le h4 h6

theorem rdT_le {b : List UInt8} (h : (rdT b).2.2 = 0) : (rdT b).2.1 ≤ b.length ∧ (rdT b).1.length ≤ b.length := by
  unfold rdT at h ⊢
  split
  · rename_i h1; rw [if_pos h1] at h; exact absurd h h1
  · rename_i h1
    rw [if_neg h1] at h
    simp only [ne_eq, Decidable.not_not] at h1
    have := rdI_le h1
    split
    · rename_i h2; rw [if_pos h2] at h; simp at h
    · simp only [List.length_take, List.length_drop]; omega

section
variable (c : Nat) (b : List UInt8) (x : Nat)

theorem condT {C : Ctx} {T : Cf} {f m : Nat} {fr : AM.Frame} {H : AM.Heap} {o : AM.Out} {c : Operand} {a b : Code} (hc : evalO C fr c = .bool true) (h : Run C T f m a fr H o) : Run C T f m (.cond c a b) fr H o :=
  Run.cond hc (by rw [if_pos rfl]; exact h)

theorem condF {C : Ctx} {T : Cf} {f m : Nat} {fr : AM.Frame} {H : AM.Heap} {o : AM.Out} {c : Operand} {a b : Code} (hc : evalO C fr c = .bool false) (h : Run C T f m b fr H o) : Run C T f m (.cond c a b) fr H o :=
  Run.cond hc (by rw [if_neg (by simp)]; exact h)

theorem int_le {a b : Nat} : ((a : Nat) : Int) ≤ (b : Nat) ↔ a ≤ b := by omega

set_option maxRecDepth 100000 in
theorem form_code : ∃ code, Try.f66.body = some code ∧
    Run X (evT X) 66 0 code [(0, .int .u64 (x : Nat))] [] ⟨.ret, [(2, .int .u8 ((frm x).1 : Nat)), (3, .int .i64 ((frm x).2 : Nat))], []⟩ := by
  refine ⟨_, rfl, 0, ?_⟩
  unfold frm
  by_cases h1 : x ≤ 250
  · have h1i : (x : Int) ≤ 250 := by omega
    simp (maxSteps := 2000000) -implicitDefEqProofs [-getElem?_pos, List.getElem?_cons_zero, List.getElem?_cons_succ, go_sem, eqV, plen, loadV, storeV, h1, h1i]
  · have h1i : ¬ (x : Int) ≤ 250 := by omega
    by_cases h2 : x < 65536
    · have h2i : (x : Int) < 65536 := by omega
      simp (maxSteps := 2000000) -implicitDefEqProofs [-getElem?_pos, List.getElem?_cons_zero, List.getElem?_cons_succ, go_sem, eqV, plen, loadV, storeV, h1, h1i, h2, h2i]
    · have h2i : ¬ (x : Int) < 65536 := by omega
      by_cases h3 : x < 16777216
      · have h3i : (x : Int) < 16777216 := by omega
        simp (maxSteps := 2000000) -implicitDefEqProofs [-getElem?_pos, List.getElem?_cons_zero, List.getElem?_cons_succ, go_sem, eqV, plen, loadV, storeV, h1, h1i, h2, h2i, h3, h3i]
      · have h3i : ¬ (x : Int) < 16777216 := by omega
        simp (maxSteps := 2000000) -implicitDefEqProofs [-getElem?_pos, List.getElem?_cons_zero, List.getElem?_cons_succ, go_sem, eqV, plen, loadV, storeV, h1, h1i, h2, h2i, h3, h3i]

set_option maxRecDepth 100000 in
theorem rsize_code : ∃ code, Try.f69.body = some code ∧
    Run X (evT X) 69 0 code [(0, .int .u64 (x : Nat))] [] ⟨.ret, [(2, .int .i64 (szI x : Nat))], []⟩ := by
  refine ⟨_, rfl, ?_⟩
  unfold szI
  apply Run.seq
  · (refine ⟨0, ?_⟩; conv => lhs; simp (maxSteps := 2000000) -implicitDefEqProofs [-getElem?_pos, List.getElem?_cons_zero, List.getElem?_cons_succ, go_sem, eqV, plen, loadV, storeV])
  by_cases h1 : x ≤ 250
  · have h1i : (x : Int) ≤ 250 := by omega
    rw [if_pos h1]
    apply Run.seq_out (hne := by simp)
    apply Run.seq
    · (refine ⟨0, ?_⟩; conv => lhs; simp (maxSteps := 2000000) -implicitDefEqProofs [-getElem?_pos, List.getElem?_cons_zero, List.getElem?_cons_succ, go_sem, eqV, plen, loadV, storeV, h1i])
    refine condT (by simp [evalO, getF]) ?_
    refine ⟨0, ?_⟩
    simp (maxSteps := 2000000) -implicitDefEqProofs [-getElem?_pos, List.getElem?_cons_zero, List.getElem?_cons_succ, go_sem, eqV, plen, loadV, storeV]
  have h1i : ¬ (x : Int) ≤ 250 := by omega
  rw [if_neg h1]
  apply Run.seq
  · (refine ⟨0, ?_⟩; conv => lhs; simp (maxSteps := 2000000) -implicitDefEqProofs [-getElem?_pos, List.getElem?_cons_zero, List.getElem?_cons_succ, go_sem, eqV, plen, loadV, storeV, h1i])
  by_cases h2 : x < 65536
  · have h2i : (x : Int) < 65536 := by omega
    rw [if_pos h2]
    apply Run.seq_out (hne := by simp)
    apply Run.seq
    · (refine ⟨0, ?_⟩; conv => lhs; simp (maxSteps := 2000000) -implicitDefEqProofs [-getElem?_pos, List.getElem?_cons_zero, List.getElem?_cons_succ, go_sem, eqV, plen, loadV, storeV, h2i])
    refine condT (by simp [evalO, getF]) ?_
    refine ⟨0, ?_⟩
    simp (maxSteps := 2000000) -implicitDefEqProofs [-getElem?_pos, List.getElem?_cons_zero, List.getElem?_cons_succ, go_sem, eqV, plen, loadV, storeV]
  have h2i : ¬ (x : Int) < 65536 := by omega
  rw [if_neg h2]
  apply Run.seq
  · (refine ⟨0, ?_⟩; conv => lhs; simp (maxSteps := 2000000) -implicitDefEqProofs [-getElem?_pos, List.getElem?_cons_zero, List.getElem?_cons_succ, go_sem, eqV, plen, loadV, storeV, h2i])
  by_cases h3 : x < 16777216
  · have h3i : (x : Int) < 16777216 := by omega
    rw [if_pos h3]
    apply Run.seq_out (hne := by simp)
    apply Run.seq
    · (refine ⟨0, ?_⟩; conv => lhs; simp (maxSteps := 2000000) -implicitDefEqProofs [-getElem?_pos, List.getElem?_cons_zero, List.getElem?_cons_succ, go_sem, eqV, plen, loadV, storeV, h3i])
    refine condT (by simp [evalO, getF]) ?_
    refine ⟨0, ?_⟩
    simp (maxSteps := 2000000) -implicitDefEqProofs [-getElem?_pos, List.getElem?_cons_zero, List.getElem?_cons_succ, go_sem, eqV, plen, loadV, storeV]
  have h3i : ¬ (x : Int) < 16777216 := by omega
  rw [if_neg h3]
  apply Run.seq
  · (refine ⟨0, ?_⟩; conv => lhs; simp (maxSteps := 2000000) -implicitDefEqProofs [-getElem?_pos, List.getElem?_cons_zero, List.getElem?_cons_succ, go_sem, eqV, plen, loadV, storeV, h3i])
  refine ⟨0, ?_⟩
  simp (maxSteps := 2000000) -implicitDefEqProofs [-getElem?_pos, List.getElem?_cons_zero, List.getElem?_cons_succ, go_sem, eqV, plen, loadV, storeV]

end

theorem form_ev (x : Nat) (H : AM.Heap) : evT X 66 [.int .u64 (x : Nat)] H = some (.tup [.int .u8 ((frm x).1 : Nat), .int .i64 ((frm x).2 : Nat)], H) := by
  obtain ⟨code, hcode, hr⟩ := form_code x
  exact evT_eq (Ev1.toldP (l := [.int .u8 ((frm x).1 : Nat), .int .i64 ((frm x).2 : Nat)]) (evT_below X) Try.func66 hcode (args_flat (i := 0) rfl rfl (args_nil 1)) rfl (by simp [gtag]) rfl rfl rfl ⟨_, ⟨rfl, rfl⟩, hr⟩)

theorem rsize_ev (x : Nat) (H : AM.Heap) : evT X 69 [.int .u64 (x : Nat)] H = some (.int .i64 (szI x : Nat), H) := by
  obtain ⟨code, hcode, hr⟩ := rsize_code x
  exact evT_eq (Ev1.toldP (l := [.int .i64 (szI x : Nat)]) (evT_below X) Try.func69 hcode (args_flat (i := 0) rfl rfl (args_nil 1)) rfl (by simp [gtag]) rfl rfl rfl ⟨_, ⟨rfl, rfl⟩, hr⟩)

section
variable (c : Nat) (b : List UInt8) (x : Nat)

end

end Go.Proofs.Ytbmddnokokoofaa
