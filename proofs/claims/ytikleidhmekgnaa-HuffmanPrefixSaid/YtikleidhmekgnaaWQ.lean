/- Walks: what is told of reader's function. -/
import Derived.Test.YtikleidhmekgnaaWP
namespace Go.Proofs.Ytikleidhmekgnaa
open Go.AM
set_option linter.unusedSimpArgs false
set_option linter.unusedVariables false

theorem idxOf_self : ∀ (zs : List Int), zs.Nodup → zs.map (fun x => zs.idxOf x) = List.range zs.length := by
  intro zs h
  refine List.ext_getElem (by simp) fun j h1 h2 => ?_
  simp only [List.length_map, List.length_range] at h1 h2
  simp only [List.getElem_map, List.getElem_range]
  exact List.Nodup.idxOf_getElem h j h1

/-- the places of reader's objects -/
def piL (d r : Nat) : List Nat := [d, d + 1, d + 2, d + 3, d + 4, d + 5] ++ (List.range r).map fun k => d + 6 + k

theorem nH_ids (d tn : Nat) (l : List Int) : idsL (xs16.map (syV (d + 6) tn (presL l) l false)) = (List.range (presL l).length).map fun k => d + 6 + k := by
  rw [idsL_sy]
  have e : (xs16.filter fun x => decide (x ∈ presL l)) = presL l := by
    unfold presL
    refine List.filter_congr fun x hx => ?_
    simp [List.mem_filter, hx]
  rw [e, ← idxOf_self (presL l) (presL_nodup l), List.map_map]
  rfl

section
variable {c : Nat} {b : List UInt8} {a m : Int} {n f l : List Int} {t tb tn : Nat} {pre : AM.Heap}

theorem nH_at (k : Nat) : (pre ++ nH c b a m n f l pre.length t tb tn)[pre.length + k]? = (nH c b a m n f l pre.length t tb tn)[k]? := by
  rw [List.getElem?_append_right (by omega)]
  congr 1; omega

theorem nH_row (d : Nat) {k : Nat} (hk : k < (presL l).length) : (nH c b a m n f l d t tb tn)[6 + k]? = some (pRow (posL ((presL l)[k]) l 0) 0 t) := by
  unfold nH
  rw [List.getElem?_append_right (by simp), List.getElem?_map]
  simp only [List.length_cons, List.length_nil]
  rw [show 6 + k - 6 = k by omega, List.getElem?_eq_getElem hk]
  rfl

theorem nH_len (d : Nat) : (nH c b a m n f l d t tb tn).length = 6 + (presL l).length := by
  unfold nH; simp; omega

theorem nx_reach : reach (pre ++ nH c b a m n f l pre.length t tb tn) reachFuel [pre.length, pre.length + 1, pre.length + 2, pre.length + 3, pre.length + 4, pre.length + 5] [] = piL pre.length (presL l).length := by
  have h0 : (pre ++ nH c b a m n f l pre.length t tb tn)[pre.length]? = some (boxV (.int .i64 m) t) := nH_at 0
  have h1 : (pre ++ nH c b a m n f l pre.length t tb tn)[pre.length + 1]? = some (boxV (.int .i64 a) t) := nH_at 1
  have h2 : (pre ++ nH c b a m n f l pre.length t tb tn)[pre.length + 2]? = some (boxV (.ro c (.pb b) tb) t) := nH_at 2
  have h3 : (pre ++ nH c b a m n f l pre.length t tb tn)[pre.length + 3]? = some (arrI 17 f t) := nH_at 3
  have h4 : (pre ++ nH c b a m n f l pre.length t tb tn)[pre.length + 4]? = some (arrI 16 n t) := nH_at 4
  have h5 : (pre ++ nH c b a m n f l pre.length t tb tn)[pre.length + 5]? = some (arrS (xs16.map (syV (pre.length + 6) tn (presL l) l false)) t) := nH_at 5
  have hflat : ∀ o ∈ (List.range (presL l).length).map (fun k => pre.length + 6 + k), ∃ ob, (pre ++ nH c b a m n f l pre.length t tb tn)[o]? = some (some ob) ∧ ob.ids = false := by
    intro o ho
    obtain ⟨k, hk, rfl⟩ := List.mem_map.1 ho
    rw [show pre.length + 6 + k = pre.length + (6 + k) by omega, nH_at, nH_row _ (List.mem_range.1 hk)]
    exact ⟨_, rfl, rfl⟩
  have hnd : ((List.range (presL l).length).map fun k => pre.length + 6 + k).Nodup := by
    rw [List.nodup_iff_pairwise_ne, List.pairwise_map]
    refine (List.nodup_iff_pairwise_ne.1 List.nodup_range).imp ?_
    intro x y hne e
    exact hne (by omega)
  have hend := reach_flat (pre ++ nH c b a m n f l pre.length t tb tn) ((List.range (presL l).length).map fun k => pre.length + 6 + k) [pre.length, pre.length + 1, pre.length + 2, pre.length + 3, pre.length + 4, pre.length + 5] 99994 (by have := presL_len l; simp; omega) hflat hnd (by
    intro o ho
    obtain ⟨k, _, rfl⟩ := List.mem_map.1 ho
    simp; omega)
  unfold piL
  show reach _ (99994 + 1 + 1 + 1 + 1 + 1 + 1) _ [] = _
  rw [← nH_ids pre.length tn l] at hend ⊢
  generalize pre ++ nH c b a m n f l pre.length t tb tn = H at *
  generalize pre.length = d at *
  unfold boxV at h0 h1 h2
  unfold arrI at h3 h4
  unfold arrS at h5
  simp [reach, h0, h1, h2, h3, h4, h5, ids, idsL, hend]

theorem piL_eq (d r : Nat) : piL d r = (List.range (6 + r)).map fun k => d + k := by
  unfold piL
  rw [List.range_add, List.map_append, List.map_map]
  congr 1
  refine List.map_congr_left fun k _ => ?_
  simp only [Function.comp_apply]; omega

theorem idxOf_range (d : Nat) : ∀ (r k s : Nat), k < r → AM.idxOf ((List.range r).map fun j => d + j) (d + k) s = some (s + k) := by
  intro r k s hk
  have : ∀ (zs : List Nat) (s : Nat), k ∈ zs → AM.idxOf (zs.map fun j => d + j) (d + k) s = some (s + zs.idxOf k) := by
    intro zs
    induction zs with
    | nil => intro s h; simp at h
    | cons z r ih =>
      intro s h
      simp only [List.map_cons, AM.idxOf]
      by_cases e : z = k
      · subst e; simp
      · rw [if_neg (by omega), ih (s + 1) ((List.mem_cons.1 h).resolve_left fun w => e w.symm), List.idxOf_cons]
        have e3 : (z == k) = false := by simpa using e
        rw [e3]
        simp
        omega
  rw [this (List.range r) s (List.mem_range.2 hk)]
  congr 2
  have h := List.Nodup.idxOf_getElem List.nodup_range k (by simpa using hk)
  simpa using h

theorem nH_live {k : Nat} (hk : k < 6 + (presL l).length) : ∃ ob, (pre ++ nH c b a m n f l pre.length t tb tn)[pre.length + k]? = some (some ob) ∧ ob.g = 0 := by
  rw [nH_at]
  by_cases h6 : k < 6
  · have : k = 0 ∨ k = 1 ∨ k = 2 ∨ k = 3 ∨ k = 4 ∨ k = 5 := by omega
    rcases this with rfl | rfl | rfl | rfl | rfl | rfl <;> exact ⟨_, rfl, rfl⟩
  · obtain ⟨j, rfl⟩ : ∃ j, k = 6 + j := ⟨k - 6, by omega⟩
    rw [nH_row _ (by omega)]
    exact ⟨_, rfl, rfl⟩

theorem into_at {k : Nat} (hk : k < 6 + (presL l).length) : intoN (pre ++ nH c b a m n f l pre.length t tb tn) (piL pre.length (presL l).length) (pre.length + k) 0 = some (k, 0) := by
  obtain ⟨ob, h, hg⟩ := nH_live (c := c) (b := b) (a := a) (m := m) (n := n) (f := f) (t := t) (tb := tb) (tn := tn) (pre := pre) hk
  unfold intoN live
  rw [h]
  simp only [hg, if_true]
  rw [piL_eq, idxOf_range _ _ _ _ hk]
  simp

/-- a renaming of reader's objects, all tags one -/
theorem nH_ren (ρ : Nat → Nat → Option (Nat × Nat)) (τ : Nat → Nat) (d d2 t2 tb2 tn2 : Nat) (hρ : ∀ k, k < (presL l).length → ρ (d + 6 + k) 0 = some (d2 + 6 + k, 0)) (ht : τ t = t2) (htb : τ tb = tb2) (htn : τ tn = tn2) :
    (nH c b a m n f l d t tb tn).map (Option.map (renObj ρ τ 0)) = nH c b a m n f l d2 t2 tb2 tn2 := by
  have hsy : ∀ x ∈ xs16, ren ρ τ (syV (d + 6) tn (presL l) l false x) = syV (d2 + 6) tn2 (presL l) l false x := by
    intro x _
    by_cases hx : x ∈ presL l
    · have h := hρ _ (List.idxOf_lt_length_of_mem hx)
      simp [syV, hx, ren, h]
    · simp [syV, hx, ren, htn]
  unfold nH
  rw [List.map_append]
  congr 1
  · simp only [List.map_cons, List.map_nil, boxV, arrI, arrS, Option.map_some, renObj, ren, renL, renL_map, ht, htb]
    rw [List.map_congr_left hsy]
  · rw [List.map_map]
    refine List.map_congr_left fun x hx => ?_
    simp only [Function.comp_apply, pRow, Option.map_some, renObj, ren, ht]

/-- in the callee the objects are called 0, 1, .. -/
theorem nx_into (u : Nat) : (piL pre.length (presL l).length).map (fun o => (obAt (pre ++ nH c b a m n f l pre.length t tb tn) o).map (renObj (intoN (pre ++ nH c b a m n f l pre.length t tb tn) (piL pre.length (presL l).length)) (fun _ => u) 0)) = nH c b a m n f l 0 u u u := by
  have hob : (piL pre.length (presL l).length).map (obAt (pre ++ nH c b a m n f l pre.length t tb tn)) = nH c b a m n f l pre.length t tb tn := by
    rw [piL_eq, List.map_map]
    refine List.ext_getElem? fun j => ?_
    by_cases hj : j < 6 + (presL l).length
    · rw [List.getElem?_map, List.getElem?_range hj]
      simp only [Option.map_some, Function.comp_apply, obAt, nH_at]
      rw [List.getElem?_eq_getElem (by rw [nH_len]; exact hj)]
      rfl
    · rw [List.getElem?_eq_none (by simp; omega), List.getElem?_eq_none (by rw [nH_len]; omega)]
  have e : ∀ F : AM.Obj → AM.Obj, (piL pre.length (presL l).length).map (fun o => (obAt (pre ++ nH c b a m n f l pre.length t tb tn) o).map F) = ((piL pre.length (presL l).length).map (obAt (pre ++ nH c b a m n f l pre.length t tb tn))).map (Option.map F) := by
    intro F; rw [List.map_map]; rfl
  rw [e, hob]
  refine nH_ren _ _ pre.length 0 u u u (fun k hk => ?_) rfl rfl rfl
  rw [show pre.length + 6 + k = pre.length + (6 + k) by omega, into_at (by omega)]

end

end Go.Proofs.Ytikleidhmekgnaa
