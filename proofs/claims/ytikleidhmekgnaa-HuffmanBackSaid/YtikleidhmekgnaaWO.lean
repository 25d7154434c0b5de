/- Walks: what is told of reader. -/
import Derived.Test.YtikleidhmekgnaaWN
namespace Go.Proofs.Ytikleidhmekgnaa
open Go.AM
set_option linter.unusedSimpArgs false
set_option linter.unusedVariables false

theorem reach_flat (H : AM.Heap) : ∀ (L acc : List Nat) (n : Nat), L.length < n → (∀ o ∈ L, ∃ ob, H[o]? = some (some ob) ∧ ob.ids = false) → L.Nodup → (∀ o ∈ L, o ∉ acc) → reach H n L acc = acc ++ L
  | [], acc, n, _, _, _, _ => by rw [reach_nil]; simp
  | o :: r, acc, 0, h, _, _, _ => by simp at h
  | o :: r, acc, n + 1, h, h1, h2, h3 => by
    obtain ⟨ob, ho, hob⟩ := h1 o (by simp)
    have hc : acc.contains o = false := by
      rw [Bool.eq_false_iff]
      intro z
      exact h3 o (by simp) (List.contains_iff_mem.1 z)
    rw [reach, hc]
    simp only [Bool.false_eq_true, if_false, ho, hob, List.nil_append]
    rw [reach_flat H r (acc ++ [o]) n (by simpa using h) (fun a ha => h1 a (List.mem_cons_of_mem _ ha)) (List.nodup_cons.1 h2).2 (fun a ha z => by
      rcases List.mem_append.1 z with z | z
      · exact h3 a (List.mem_cons_of_mem _ ha) z
      · simp only [List.mem_singleton] at z
        subst z
        exact (List.nodup_cons.1 h2).1 ha)]
    simp

theorem idsL_sy (d tn : Nat) (ks l : List Int) (gr : Bool) : ∀ zs : List Int, idsL (zs.map (syV d tn ks l gr)) = (zs.filter fun x => decide (x ∈ ks)).map fun x => d + ks.idxOf x
  | [] => rfl
  | z :: r => by
    simp only [List.map_cons, idsL, idsL_sy d tn ks l gr r, List.filter_cons]
    by_cases h : z ∈ ks
    · simp [syV, h, ids]
    · simp [syV, h, ids]

theorem tagsL_sy (d tn : Nat) (ks l : List Int) (gr : Bool) : ∀ zs : List Int, ∀ t ∈ tagsL (zs.map (syV d tn ks l gr)), t = tn
  | [], t, h => by simp [tagsL] at h
  | z :: r, t, h => by
    simp only [List.map_cons, tagsL, List.mem_append] at h
    rcases h with h | h
    · by_cases hz : z ∈ ks
      · simp [syV, hz, tags] at h
      · simpa [syV, hz, tags] using h
    · exact tagsL_sy d tn ks l gr r t h

theorem idxOf_map {g : Int → Nat} : ∀ (zs : List Int) (x : Int) (k : Nat), x ∈ zs → (∀ y ∈ zs, g y = g x → y = x) → AM.idxOf (zs.map g) (g x) k = some (k + zs.idxOf x)
  | [], x, k, h, _ => by simp at h
  | z :: r, x, k, h, hg => by
    simp only [List.map_cons, AM.idxOf]
    by_cases e : z = x
    · subst e; simp
    · have e2 : ¬ g z = g x := fun w => e (hg z (by simp) w)
      rw [if_neg e2, idxOf_map r x (k + 1) ((List.mem_cons.1 h).resolve_left fun w => e w.symm) (fun y hy => hg y (List.mem_cons_of_mem _ hy)), List.idxOf_cons]
      have e3 : (z == x) = false := by simpa using e
      rw [e3]
      simp
      omega

theorem idxOf_big : ∀ (P L : List Nat) (o k : Nat), o ∉ P → AM.idxOf (P ++ L) o k = AM.idxOf L o (k + P.length)
  | [], L, o, k, _ => rfl
  | p :: P, L, o, k, h => by
    simp only [List.mem_cons, not_or] at h
    simp only [List.cons_append, AM.idxOf, List.length_cons]
    rw [if_neg (fun z => h.1 z.symm), idxOf_big P L o (k + 1) h.2]
    congr 1; omega

theorem strike_nil : ∀ l : List Nat, strike l [] = []
  | [] => rfl
  | o :: r => by simp only [strike, upd, List.set_nil]; exact strike_nil r

theorem presL_mem {l : List Int} (hf : fine l = true) (x : Int) : x ∈ presL l ↔ x ∈ l := by
  unfold presL
  rw [List.mem_filter]
  constructor
  · exact fun h => by simpa using h.2
  · intro h
    have hx : 0 ≤ x ∧ x ≤ 15 := by
      have := List.all_eq_true.1 hf x h
      simpa using this
    exact ⟨List.mem_of_getElem? (xs16_at hx), by simpa using h⟩

theorem presL_nodup (l : List Int) : (presL l).Nodup := List.Pairwise.filter _ (by decide)

theorem presL_len (l : List Int) : (presL l).length ≤ 16 := Nat.le_trans (List.length_filter_le _ _) (by decide)

theorem presL_ks {ks l : List Int} (hk : okKs ks l) : (xs16.filter fun x => decide (x ∈ ks)) = presL l := by
  unfold presL
  refine List.filter_congr fun x _ => ?_
  simp [hk.2 x]

theorem renL_map (ρ : Nat → Nat → Option (Nat × Nat)) (τ : Nat → Nat) (g : Int → AV) : ∀ zs : List Int, renL ρ τ (zs.map g) = zs.map fun x => ren ρ τ (g x)
  | [] => rfl
  | z :: r => by simp only [List.map_cons, renL, renL_map ρ τ g r]

end Go.Proofs.Ytikleidhmekgnaa
