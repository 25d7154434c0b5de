/- Walks: what is told of reader. -/
import Derived.Test.YtikleidhmekgnaaWO
namespace Go.Proofs.Ytikleidhmekgnaa
open Go.AM
set_option linter.unusedSimpArgs false
set_option linter.unusedVariables false

theorem rd_reach {c : Nat} {b : List UInt8} {a m : Int} {n f ks l : List Int} (hf : fine l = true) (hk : okKs ks l) :
    reach (rdH c b a n f ks l m) reachFuel [5, 1, 0, 3, 2, 4] [] = [5, 1, 0, 3, 2, 4] ++ (presL l).map fun x => 6 + ks.idxOf x := by
  have h0 : (rdH c b a n f ks l m)[0]? = some (boxV (.ro c (.pb b) 2) 0) := rfl
  have h1 : (rdH c b a n f ks l m)[1]? = some (boxV (.int .i64 a) 0) := rfl
  have h2 : (rdH c b a n f ks l m)[2]? = some (arrI 16 n 0) := rfl
  have h3 : (rdH c b a n f ks l m)[3]? = some (arrI 17 f 0) := rfl
  have h4 : (rdH c b a n f ks l m)[4]? = some (arrS (xs16.map (syV 6 0 ks l true)) 0) := rfl
  have h5 : (rdH c b a n f ks l m)[5]? = some (boxV (.int .i64 m) 0) := rfl
  have hL : idsL (xs16.map (syV 6 0 ks l true)) = (presL l).map fun x => 6 + ks.idxOf x := by rw [idsL_sy, presL_ks hk]
  have hmem : ∀ x, x ∈ presL l → x ∈ ks := fun x hx => (hk.2 x).2 ((presL_mem hf x).1 hx)
  have hinj : ∀ x ∈ presL l, ∀ y ∈ presL l, 6 + ks.idxOf x = 6 + ks.idxOf y → x = y := by
    intro x hx y hy e
    have h1 := List.getElem_idxOf (List.idxOf_lt_length_of_mem (hmem x hx))
    have h2 := List.getElem_idxOf (List.idxOf_lt_length_of_mem (hmem y hy))
    have e' : ks.idxOf x = ks.idxOf y := by omega
    rw [← h1, ← h2]
    simp only [e']
  have hflat : ∀ o ∈ (presL l).map (fun x => 6 + ks.idxOf x), ∃ ob, (rdH c b a n f ks l m)[o]? = some (some ob) ∧ ob.ids = false := by
    intro o ho
    obtain ⟨x, hx, rfl⟩ := List.mem_map.1 ho
    have hlt := List.idxOf_lt_length_of_mem (hmem x hx)
    refine ⟨⟨.pi .i64 (posL x l 0), (posL x l 0).length - 1, .none, (if (posL x l 0).length ≤ 1 then 0 else 1), true, false, 0⟩, ?_, rfl⟩
    unfold rdH
    rw [List.getElem?_append_right (by simp), List.getElem?_map]
    simp only [List.length_cons, List.length_nil]
    rw [show 6 + ks.idxOf x - 6 = ks.idxOf x by omega, List.getElem?_eq_getElem hlt]
    simp [pRow]
  have hnd : ((presL l).map fun x => 6 + ks.idxOf x).Nodup := by
    rw [List.nodup_iff_pairwise_ne, List.pairwise_map]
    refine (List.nodup_iff_pairwise_ne.1 (presL_nodup l)).imp_of_mem ?_
    intro x y hx hy hne e
    exact hne (hinj x hx y hy e)
  have hend := reach_flat (rdH c b a n f ks l m) ((presL l).map fun x => 6 + ks.idxOf x) [5, 1, 0, 3, 2, 4] 99994 (by have := presL_len l; simp; omega) hflat hnd (by
    intro o ho
    obtain ⟨x, _, rfl⟩ := List.mem_map.1 ho
    simp; omega)
  show reach _ (99994 + 1 + 1 + 1 + 1 + 1 + 1) [5, 1, 0, 3, 2, 4] [] = _
  rw [← hL] at hend ⊢
  generalize rdH c b a n f ks l m = H at *
  unfold boxV at h0 h1 h5
  unfold arrI at h2 h3
  unfold arrS at h4
  simp [reach, h0, h1, h2, h3, h4, h5, ids, idsL, hend]

theorem tagsObjs_app : ∀ (P L : List (Option AM.Obj)), tagsObjs (P ++ L) = tagsObjs P ++ tagsObjs L
  | [], L => rfl
  | some ob :: r, L => by simp only [List.cons_append, tagsObjs, tagsObjs_app r L, List.append_assoc]
  | none :: r, L => by simp only [List.cons_append, tagsObjs, tagsObjs_app r L]

theorem tagsObjs_rows (t : Nat) (h : Int → List Int) (g : Int → Nat) : ∀ zs : List Int, ∀ u ∈ tagsObjs (zs.map fun x => pRow (h x) (g x) t), u = t
  | [], u, hu => by simp [tagsObjs] at hu
  | z :: r, u, hu => by
    simp only [List.map_cons, pRow, tagsObjs, tagsOb, List.mem_append] at hu
    rcases hu with hu | hu
    · simpa using hu
    · exact tagsObjs_rows t h g r u hu

set_option maxRecDepth 100000 in
theorem rd_wrap {c : Nat} {b : List UInt8} {a m : Int} {n f ks l : List Int} (hf : fine l = true) (hk : okKs ks l) :
    wrap [] [] [⟨[], [1]⟩, ⟨[], [2]⟩, ⟨[], []⟩, ⟨[], []⟩] (.fn 26 [.ptr 5 0 0 0, .ptr 1 0 0 0, .ptr 0 0 0 0, .ptr 3 0 0 0, .ptr 2 0 0 0, .ptr 4 0 0 0]) (rdH c b a n f ks l m) =
      some (.fn 26 [.ptr 0 0 0 0, .ptr 1 0 0 0, .ptr 2 0 0 0, .ptr 3 0 0 0, .ptr 4 0 0 0, .ptr 5 0 0 0], nH c b a m n f l 0 0 2 0) := by
  have hr := rd_reach (c := c) (b := b) (a := a) (m := m) (n := n) (f := f) hf hk
  have hmem : ∀ x, x ∈ presL l → x ∈ ks := fun x hx => (hk.2 x).2 ((presL_mem hf x).1 hx)
  have hinj : ∀ x ∈ presL l, ∀ y ∈ presL l, 6 + ks.idxOf x = 6 + ks.idxOf y → x = y := by
    intro x hx y hy e
    have h1 := List.getElem_idxOf (List.idxOf_lt_length_of_mem (hmem x hx))
    have h2 := List.getElem_idxOf (List.idxOf_lt_length_of_mem (hmem y hy))
    have e' : ks.idxOf x = ks.idxOf y := by omega
    rw [← h1, ← h2]
    simp only [e']
  have hat : ∀ x ∈ presL l, (rdH c b a n f ks l m)[6 + ks.idxOf x]? = some (pRow (posL x l 0) ((posL x l 0).length - 1) 0) := by
    intro x hx
    have hlt := List.idxOf_lt_length_of_mem (hmem x hx)
    unfold rdH
    rw [List.getElem?_append_right (by simp), List.getElem?_map]
    simp only [List.length_cons, List.length_nil]
    rw [show 6 + ks.idxOf x - 6 = ks.idxOf x by omega, List.getElem?_eq_getElem hlt]
    simp
  have h0 : (rdH c b a n f ks l m)[0]? = some (boxV (.ro c (.pb b) 2) 0) := rfl
  have h1 : (rdH c b a n f ks l m)[1]? = some (boxV (.int .i64 a) 0) := rfl
  have h2 : (rdH c b a n f ks l m)[2]? = some (arrI 16 n 0) := rfl
  have h3 : (rdH c b a n f ks l m)[3]? = some (arrI 17 f 0) := rfl
  have h4 : (rdH c b a n f ks l m)[4]? = some (arrS (xs16.map (syV 6 0 ks l true)) 0) := rfl
  have h5 : (rdH c b a n f ks l m)[5]? = some (boxV (.int .i64 m) 0) := rfl
  have hrows : ((presL l).map fun x => 6 + ks.idxOf x).map (obAt (rdH c b a n f ks l m)) = (presL l).map fun x => pRow (posL x l 0) ((posL x l 0).length - 1) 0 := by
    rw [List.map_map]
    refine List.map_congr_left fun x hx => ?_
    simp only [Function.comp_apply, obAt, hat x hx, Option.getD_some]
  generalize hLd : (presL l).map (fun x => 6 + ks.idxOf x) = L at *
  have hnew : (reach (rdH c b a n f ks l m) reachFuel (List.range ([] : List Nat).length ++ ids (.fn 26 [.ptr 5 0 0 0, .ptr 1 0 0 0, .ptr 0 0 0 0, .ptr 3 0 0 0, .ptr 2 0 0 0, .ptr 4 0 0 0])) []) = [5, 1, 0, 3, 2, 4] ++ L := hr
  have hfil : ([5, 1, 0, 3, 2, 4] ++ L).filter (fun o => decide (([] : List Nat).length ≤ o)) = [5, 1, 0, 3, 2, 4] ++ L := List.filter_eq_self.2 fun o _ => by simp
  have hob : ([5, 1, 0, 3, 2, 4] ++ L).map (obAt (rdH c b a n f ks l m)) = [boxV (.int .i64 m) 0, boxV (.int .i64 a) 0, boxV (.ro c (.pb b) 2) 0, arrI 17 f 0, arrI 16 n 0, arrS (xs16.map (syV 6 0 ks l true)) 0] ++ (presL l).map fun x => pRow (posL x l 0) ((posL x l 0).length - 1) 0 := by
    rw [List.map_append, hrows]
    simp [obAt, h0, h1, h2, h3, h4, h5]
  have hidx : ∀ x ∈ presL l, AM.idxOf ([5, 1, 0, 3, 2, 4] ++ L) (6 + ks.idxOf x) 0 = some (6 + (presL l).idxOf x) := by
    intro x hxp
    rw [idxOf_big _ _ _ _ (by simp; omega), ← hLd]
    exact idxOf_map (g := fun x => 6 + ks.idxOf x) (presL l) x 6 hxp fun y hy e => hinj y hy x hxp e
  have i0 : AM.idxOf ([5, 1, 0, 3, 2, 4] ++ L) 0 0 = some 2 := rfl
  have i1 : AM.idxOf ([5, 1, 0, 3, 2, 4] ++ L) 1 0 = some 1 := rfl
  have i2 : AM.idxOf ([5, 1, 0, 3, 2, 4] ++ L) 2 0 = some 4 := rfl
  have i3 : AM.idxOf ([5, 1, 0, 3, 2, 4] ++ L) 3 0 = some 3 := rfl
  have i4 : AM.idxOf ([5, 1, 0, 3, 2, 4] ++ L) 4 0 = some 5 := rfl
  have i5 : AM.idxOf ([5, 1, 0, 3, 2, 4] ++ L) 5 0 = some 0 := rfl
  generalize [5, 1, 0, 3, 2, 4] ++ L = NW at *
  generalize hτ : backT [⟨[], [1]⟩, ⟨[], [2]⟩, ⟨[], []⟩, ⟨[], []⟩] = τ at *
  have τ0 : τ 0 = 0 := by rw [← hτ]; rfl
  have τ2 : τ 2 = 2 := by rw [← hτ]; rfl
  generalize hρ : backN [] [] NW (rdH c b a n f ks l m) = ρ at *
  -- the callee's names in the caller's
  have hsy : ∀ x ∈ xs16, ren ρ τ (syV 6 0 ks l true x) = syV (0 + 6) 0 (presL l) l false x := by
    intro x hx16
    by_cases hx : x ∈ ks
    · have hxp : x ∈ presL l := (presL_mem hf x).2 ((hk.2 x).1 hx)
      have hlive : live (rdH c b a n f ks l m) (6 + ks.idxOf x) ((posL x l 0).length - 1) = some ⟨.pi .i64 (posL x l 0), (posL x l 0).length - 1, .none, (if (posL x l 0).length ≤ 1 then 0 else 1), true, false, 0⟩ := by
        unfold live
        rw [hat x hxp]
        simp [pRow]
      simp [syV, hx, hxp, ren, ← hρ, backN, hlive, hidx x hxp]
    · have hxp : x ∉ presL l := fun z => hx (hmem x z)
      simp [syV, hx, hxp, ren, τ0]
  have hlv : ∀ o ob, (rdH c b a n f ks l m)[o]? = some (some ob) → ob.g = 0 → ∀ k, AM.idxOf NW o 0 = some k → ρ o 0 = some (k, 0) := by
    intro o ob ho hg k hk
    simp [← hρ, backN, live, ho, hg, hk]
  have g0 := hlv 0 _ h0 rfl 2 i0
  have g1 := hlv 1 _ h1 rfl 1 i1
  have g2 := hlv 2 _ h2 rfl 4 i2
  have g3 := hlv 3 _ h3 rfl 3 i3
  have g4 := hlv 4 _ h4 rfl 5 i4
  have g5 := hlv 5 _ h5 rfl 0 i5
  have hmap : NW.map (fun o => (obAt (rdH c b a n f ks l m) o).map (renObj ρ τ 0)) = nH c b a m n f l 0 0 2 0 := by
    have e : NW.map (fun o => (obAt (rdH c b a n f ks l m) o).map (renObj ρ τ 0)) = (NW.map (obAt (rdH c b a n f ks l m))).map (Option.map (renObj ρ τ 0)) := by rw [List.map_map]; rfl
    rw [e, hob]
    unfold nH
    rw [List.map_append]
    congr 1
    · simp only [List.map_cons, List.map_nil, boxV, arrI, arrS, Option.map_some, renObj, ren, renL, renL_map, τ0, τ2]
      rw [List.map_congr_left hsy]
    · rw [List.map_map]
      refine List.map_congr_left fun x hx => ?_
      simp only [Function.comp_apply, pRow, Option.map_some, renObj, ren, τ0]
  have htags : ∀ u ∈ tagsObjs (NW.map (obAt (rdH c b a n f ks l m))), u = 0 ∨ u = 2 := by
    intro u hu
    rw [hob, tagsObjs_app, List.mem_append] at hu
    rcases hu with hu | hu
    · simp only [boxV, arrI, arrS, tagsObjs, tagsOb, if_true, tags, tagsL, List.mem_append, List.append_nil, List.nil_append] at hu
      simp only [Bool.false_eq_true, if_false, List.cons_append, List.nil_append, List.mem_cons, List.not_mem_nil, or_false] at hu
      rcases hu with hu | hu | hu | hu
      · exact .inr hu
      · exact .inl hu
      · exact .inl hu
      · exact .inl (tagsL_sy _ _ _ _ _ _ u hu)
    · exact .inl (tagsObjs_rows 0 _ _ _ u hu)
  unfold wrap
  rw [hnew]
  simp only [hfil]
  rw [if_pos ?_]
  · simp only [hρ, hτ, hmap, putBack, strike_nil, List.nil_append]
    simp only [ren, renL, g0, g1, g2, g3, g4, g5]
  · rw [List.all_eq_true]
    intro u hu
    simp only [List.length_nil, List.range_zero, List.map_nil, tagsObjs, List.append_nil, List.mem_append, tags, tagsL, List.not_mem_nil, false_or] at hu
    rcases htags u hu with rfl | rfl <;> rfl

set_option maxRecDepth 100000 in
theorem reader_ev (c c2 : Nat) (l : List Int) (b : List UInt8) (a : Int) (hl : l.length ≤ 320) (hf : fine l = true) :
    Ev1 X 22 [.ro c (.pi .i64 l) 1, .ro c2 (.pb b) 2, .int .i64 a] [] (.fn 26 [.ptr 0 0 0 0, .ptr 1 0 0 0, .ptr 2 0 0 0, .ptr 3 0 0 0, .ptr 4 0 0 0, .ptr 5 0 0 0], nH c2 b a (mxL 0 l) (countsR l).1 (firstsR (countsR l).1) l 0 0 2 0) := by
  obtain ⟨code, hbody, o, hr, ks, hk, rfl⟩ := reader_code c c2 l b a hl hf
  have hw := rd_wrap (c := c2) (b := b) (a := a) (m := mxL 0 l) (n := (countsR l).1) (f := firstsR (countsR l).1) hf hk
  refine Ev1.of (l := [.fn 26 [.ptr 5 0 0 0, .ptr 1 0 0 0, .ptr 0 0 0 0, .ptr 3 0 0 0, .ptr 2 0 0 0, .ptr 4 0 0 0]]) (out := ⟨.ret, [(6, .fn 26 [.ptr 5 0 0 0, .ptr 1 0 0 0, .ptr 0 0 0 0, .ptr 3 0 0 0, .ptr 2 0 0 0, .ptr 4 0 0 0])], rdH c2 b a (countsR l).1 (firstsR (countsR l).1) ks l (mxL 0 l)⟩) T2_below Try.func22 hbody (show lendArgs X 22 [] 0 [.ro c (.pi .i64 l) 1, .ro c2 (.pb b) 2, .int .i64 a] = some ([.ro c (.pi .i64 l) 1, .ro c2 (.pb b) 2, .int .i64 a], [⟨[], [1]⟩, ⟨[], [2]⟩, ⟨[], []⟩]) from rfl) ?_ ?_ (.inr rfl) ?_ ?_
  · rw [show idsL [.ro c (.pi .i64 l) 1, .ro c2 (.pb b) 2, .int .i64 a] = [] from rfl, reach_none]
    rfl
  · rw [show idsL [.ro c (.pi .i64 l) 1, .ro c2 (.pb b) 2, .int .i64 a] = [] from rfl, reach_none]
    exact hr
  · rfl
  · rw [show idsL [.ro c (.pi .i64 l) 1, .ro c2 (.pb b) 2, .int .i64 a] = [] from rfl, reach_none]
    exact hw

end Go.Proofs.Ytikleidhmekgnaa
