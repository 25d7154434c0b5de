/- Walks: what is told of reader's function. -/
import Derived.Test.YtikleidhmekgnaaWQ
namespace Go.Proofs.Ytikleidhmekgnaa
open Go.AM
set_option linter.unusedSimpArgs false
set_option linter.unusedVariables false

theorem reach_in (H : AM.Heap) : ∀ (L acc : List Nat) (n : Nat), (∀ o ∈ L, o ∈ acc) → reach H n L acc = acc
  | [], acc, n, _ => reach_nil H acc n
  | o :: r, acc, 0, _ => rfl
  | o :: r, acc, n + 1, h => by
    have hc : acc.contains o = true := List.contains_iff_mem.2 (h o (by simp))
    rw [reach, hc]
    simp only [if_true]
    exact reach_in H r acc n fun a ha => h a (List.mem_cons_of_mem _ ha)

theorem reach_app (H : AM.Heap) : ∀ (L M acc : List Nat) (n : Nat), L.length < n → (∀ o ∈ L, ∃ ob, H[o]? = some (some ob) ∧ ob.ids = false) → L.Nodup → (∀ o ∈ L, o ∉ acc) → (∀ o ∈ M, o ∈ acc ++ L) → reach H n (L ++ M) acc = acc ++ L
  | [], M, acc, n, _, _, _, _, h => by rw [List.nil_append, reach_in H M acc n (by simpa using h)]; simp
  | o :: r, M, acc, 0, h, _, _, _, _ => by simp at h
  | o :: r, M, acc, n + 1, h, h1, h2, h3, h4 => by
    obtain ⟨ob, ho, hob⟩ := h1 o (by simp)
    have hc : acc.contains o = false := by
      rw [Bool.eq_false_iff]
      intro z
      exact h3 o (by simp) (List.contains_iff_mem.1 z)
    rw [List.cons_append, reach, hc]
    simp only [Bool.false_eq_true, if_false, ho, hob, List.nil_append]
    rw [reach_app H r M (acc ++ [o]) n (by simpa using h) (fun a ha => h1 a (List.mem_cons_of_mem _ ha)) (List.nodup_cons.1 h2).2 (fun a ha z => by
      rcases List.mem_append.1 z with z | z
      · exact h3 a (List.mem_cons_of_mem _ ha) z
      · simp only [List.mem_singleton] at z
        subst z
        exact (List.nodup_cons.1 h2).1 ha) (fun a ha => by simpa using h4 a ha)]
    simp

section
variable {c : Nat} {b : List UInt8} {a m : Int} {n f l : List Int} {t tb tn : Nat} {pre : AM.Heap}

/-- in the callee, all that was handed over and no more -/
theorem nx_back (u : Nat) : ∀ o ∈ reach (nH c b a m n f l 0 u u u) reachFuel (List.range (6 + (presL l).length)) [], o < 6 + (presL l).length := by
  have h0 : (nH c b a m n f l 0 u u u)[0]? = some (boxV (.int .i64 m) u) := rfl
  have h1 : (nH c b a m n f l 0 u u u)[1]? = some (boxV (.int .i64 a) u) := rfl
  have h2 : (nH c b a m n f l 0 u u u)[2]? = some (boxV (.ro c (.pb b) u) u) := rfl
  have h3 : (nH c b a m n f l 0 u u u)[3]? = some (arrI 17 f u) := rfl
  have h4 : (nH c b a m n f l 0 u u u)[4]? = some (arrI 16 n u) := rfl
  have h5 : (nH c b a m n f l 0 u u u)[5]? = some (arrS (xs16.map (syV (0 + 6) u (presL l) l false)) u) := rfl
  have hflat : ∀ o ∈ (List.range (presL l).length).map (fun k => 0 + 6 + k), ∃ ob, (nH c b a m n f l 0 u u u)[o]? = some (some ob) ∧ ob.ids = false := by
    intro o ho
    obtain ⟨k, hk, rfl⟩ := List.mem_map.1 ho
    rw [show 0 + 6 + k = 6 + k by omega, nH_row _ (List.mem_range.1 hk)]
    exact ⟨_, rfl, rfl⟩
  have hnd : ((List.range (presL l).length).map fun k => 0 + 6 + k).Nodup := by
    rw [List.nodup_iff_pairwise_ne, List.pairwise_map]
    refine (List.nodup_iff_pairwise_ne.1 List.nodup_range).imp ?_
    intro x y hne e
    exact hne (by omega)
  have hr : List.range (6 + (presL l).length) = [0, 1, 2, 3, 4, 5] ++ (List.range (presL l).length).map fun k => 0 + 6 + k := by
    have := piL_eq 0 (presL l).length
    unfold piL at this
    rw [show (List.range (6 + (presL l).length)) = (List.range (6 + (presL l).length)).map fun k => 0 + k by simp]
    exact this.symm
  have hend := reach_app (nH c b a m n f l 0 u u u) ((List.range (presL l).length).map fun k => 0 + 6 + k) ((List.range (presL l).length).map fun k => 0 + 6 + k) [0, 1, 2, 3, 4, 5] 99994 (by have := presL_len l; simp; omega) hflat hnd (by
    intro o ho
    obtain ⟨k, _, rfl⟩ := List.mem_map.1 ho
    simp; omega) (fun o ho => List.mem_append_right _ ho)
  intro o ho
  have hall : reach (nH c b a m n f l 0 u u u) reachFuel (List.range (6 + (presL l).length)) [] = List.range (6 + (presL l).length) := by
    rw [hr]
    show reach _ (99994 + 1 + 1 + 1 + 1 + 1 + 1) _ [] = _
    rw [← nH_ids 0 u l] at hend ⊢
    generalize nH c b a m n f l 0 u u u = H at *
    unfold boxV at h0 h1 h2
    unfold arrI at h3 h4
    unfold arrS at h5
    simp [reach, h0, h1, h2, h3, h4, h5, ids, idsL]
    simpa using hend
  rw [hall] at ho
  exact List.mem_range.1 ho

end

end Go.Proofs.Ytikleidhmekgnaa
