/- Walks: what is told of reader's function. -/
import Derived.Test.YtikleidhmekgnaaWR
namespace Go.Proofs.Ytikleidhmekgnaa
open Go.AM
set_option linter.unusedSimpArgs false
set_option linter.unusedVariables false

theorem putBack_seq {ρ : Nat → Nat → Option (Nat × Nat)} {τ : Nat → Nat} {H : AM.Heap} {π : List Nat} {H1 : AM.Heap} {d : Nat} (F : Nat → Option AM.Obj) : ∀ (j k : Nat) (B : AM.Heap),
    (∀ i, k ≤ i → i < k + j → ((obAt H1 i).map fun ob => renObj ρ τ (genBack H π i ob.g) ob) = F i) → ∀ x : Nat, (putBack ρ τ H π H1 k (List.range' (d + k) j) B)[x]? = if d + k ≤ x ∧ x < d + k + j ∧ x < B.length then some (F (x - d)) else B[x]?
  | 0, k, B, _, x => by
    simp only [List.range'_zero, putBack]
    rw [if_neg (by omega)]
  | j + 1, k, B, h, x => by
    simp only [List.range'_succ, putBack]
    rw [show d + k + 1 = d + (k + 1) by omega, putBack_seq F j (k + 1) _ (fun i h1 h2 => h i (by omega) (by omega)) x, h k (Nat.le_refl _) (by omega)]
    simp only [upd, List.length_set, List.getElem?_set]
    by_cases e : x = d + k
    · subst e
      rw [if_neg (by omega), if_pos rfl]
      by_cases hl : d + k < B.length
      · rw [if_pos hl, if_pos (by omega), show d + k - d = k by omega]
      · rw [if_neg hl, if_neg (by omega), List.getElem?_eq_none (by omega)]
    · have e2 : ¬ d + k = x := fun z => e z.symm
      by_cases hc : d + (k + 1) ≤ x ∧ x < d + (k + 1) + j ∧ x < B.length
      · rw [if_pos hc, if_pos (by omega)]
      · rw [if_neg hc, if_neg e2, if_neg (by omega)]

theorem joinTags_two : ∀ L : List Nat, (∀ u ∈ L, u = 0 ∨ u = 2) → joinTags L = some (if 2 ∈ L then 2 else 0)
  | [], _ => rfl
  | u :: r, h => by
    rw [joinTags, joinTags_two r fun v hv => h v (List.mem_cons_of_mem _ hv)]
    rcases h u (by simp) with rfl | rfl
    · by_cases hr : 2 ∈ r <;> simp [hr, joinTag]
    · by_cases hr : 2 ∈ r <;> simp [hr, joinTag]

section
variable {c : Nat} {b : List UInt8} {a m : Int} {n f l : List Int} {t tn : Nat} {pre : AM.Heap}

theorem nH_tags (d tb : Nat) : ∀ u ∈ tagsObjs (nH c b a m n f l d t tb tn), u = t ∨ u = tb ∨ u = tn := by
  intro u hu
  unfold nH at hu
  rw [tagsObjs_app, List.mem_append] at hu
  rcases hu with hu | hu
  · simp only [boxV, arrI, arrS, tagsObjs, tagsOb, if_true, tags, tagsL, List.mem_append, List.append_nil, List.nil_append] at hu
    simp only [Bool.false_eq_true, if_false, List.cons_append, List.nil_append, List.mem_cons, List.not_mem_nil, or_false] at hu
    rcases hu with hu | hu | hu | hu
    · exact .inr (.inl hu)
    · exact .inl hu
    · exact .inl hu
    · exact .inr (.inr (tagsL_sy _ _ _ _ _ _ u hu))
  · exact .inl (tagsObjs_rows t _ _ _ u hu)

theorem nH_tag_b (d tb : Nat) : tb ∈ tagsObjs (nH c b a m n f l d t tb tn) := by
  unfold nH
  rw [tagsObjs_app, List.mem_append]
  left
  simp [boxV, arrI, arrS, tagsObjs, tagsOb, tags, tagsL]

theorem nH_obAt (d tb k : Nat) : obAt (pre ++ nH c b a m n f l pre.length t tb tn) (pre.length + k) = obAt (nH c b a m n f l pre.length t tb tn) k := by
  unfold obAt
  rw [nH_at]

theorem nH_g0 (d tb k : Nat) : ∀ ob, obAt (nH c b a m n f l d t tb tn) k = some ob → ob.g = 0 := by
  intro ob h
  by_cases hk : k < 6 + (presL l).length
  · by_cases h6 : k < 6
    · have : k = 0 ∨ k = 1 ∨ k = 2 ∨ k = 3 ∨ k = 4 ∨ k = 5 := by omega
      rcases this with rfl | rfl | rfl | rfl | rfl | rfl <;> (cases h; rfl)
    · obtain ⟨j, rfl⟩ : ∃ j, k = 6 + j := ⟨k - 6, by omega⟩
      unfold obAt at h
      rw [nH_row _ (by omega)] at h
      cases h; rfl
  · unfold obAt at h
    rw [List.getElem?_eq_none (by rw [nH_len]; omega)] at h
    cases h

end

end Go.Proofs.Ytikleidhmekgnaa
