/- Walks: reader. -/
import Derived.Test.YtikleidhmekgnaaWK
namespace Go.Proofs.Ytikleidhmekgnaa
open Go.AM
set_option linter.unusedSimpArgs false
set_option linter.unusedVariables false

/-- where x stands, on from i -/
def posL (x : Int) : List Int → Nat → List Int
  | [], _ => []
  | y :: r, i => if y = x then (i : Int) :: posL x r (i + 1) else posL x r (i + 1)

theorem posL_snoc (x y : Int) : ∀ (l : List Int) (i : Nat), posL x (l ++ [y]) i = posL x l i ++ (if y = x then [((i + l.length : Nat) : Int)] else [])
  | [], i => by simp [posL]
  | z :: r, i => by
    simp only [List.cons_append, posL, posL_snoc x y r (i + 1), List.length_cons]
    rw [show i + 1 + r.length = i + (r.length + 1) by omega]
    split <;> simp

theorem posL_nil (x : Int) : ∀ (l : List Int) (i : Nat), posL x l i = [] ↔ x ∉ l
  | [], i => by simp [posL]
  | z :: r, i => by
    simp only [posL, List.mem_cons, not_or]
    by_cases h : z = x
    · simp [h]
    · rw [if_neg h, posL_nil x r (i + 1)]
      exact ⟨fun g => ⟨fun e => h e.symm, g⟩, fun g => g.2⟩

/-- a row of places, g times grown, under a tag -/
def pRow (ps : List Int) (g t : Nat) : Option AM.Obj := some { p := .pi .i64 ps, g := g, cap := .none, z := if ps.length ≤ 1 then 0 else 1, row := true, ids := false, tg := t }

/-- what stands in the array at x: the rows' order ks, d objects ahead of them -/
def syV (d tn : Nat) (ks : List Int) (l : List Int) (gr : Bool) (x : Int) : AV :=
  if x ∈ ks then .sl (d + ks.idxOf x) 0 (posL x l 0).length (if gr then (posL x l 0).length - 1 else 0) else .ro 0 .pn tn

def xs16 : List Int := [0, 1, 2, 3, 4, 5, 6, 7, 8, 9, 10, 11, 12, 13, 14, 15]

def boxV (v : AV) (t : Nat) : Option AM.Obj := some { p := .pc [v], g := 0, cap := some 1, z := 1, row := false, ids := true, tg := t }
def arrI (k : Nat) (n : List Int) (t : Nat) : Option AM.Obj := some { p := .pi .i64 n, g := 0, cap := some k, z := 1, row := false, ids := false, tg := t }
def arrS (s : List AV) (t : Nat) : Option AM.Obj := some { p := .pc s, g := 0, cap := some 16, z := 1, row := false, ids := true, tg := t }

/-- reader's heap -/
def rdH (c : Nat) (b : List UInt8) (a : Int) (n f : List Int) (ks done : List Int) (m : Int) : AM.Heap :=
  [boxV (.ro c (.pb b) 2) 0, boxV (.int .i64 a) 0, arrI 16 n 0, arrI 17 f 0, arrS (xs16.map (syV 6 0 ks done true)) 0, boxV (.int .i64 m) 0] ++ ks.map fun x => pRow (posL x done 0) ((posL x done 0).length - 1) 0

theorem app_nil {H : AM.Heap} (i : Int) : appendV X H 25 (.ro 0 .pn 0) (.ro 1 (.pi .i64 [i]) 0) = some (.sl H.length 0 1 0, H ++ [pRow [i] 0 0]) := by
  have hroom : roomOk X 3 1 = true := by simp [roomOk]
  simp only [appendV, und25, size3, zok3]
  simp [srcV, payB, plen, emptyRow, papp, pesz, ptag, joinTag, hroom, pRow]

theorem app_row {H : AM.Heap} {o g : Nat} {ps : List Int} (i : Int) (ho : H[o]? = some (pRow ps g 0)) (h0 : ps ≠ []) (h : ps.length ≤ 100000) : appendV X H 25 (.sl o 0 ps.length g) (.ro 1 (.pi .i64 [i]) 0) = some (.sl o 0 (ps.length + 1) (g + 1), H.set o (pRow (ps ++ [i]) (g + 1) 0)) := by
  have hroom : roomOk X 3 (ps.length + 1) = true := by
    simp [roomOk]
    omega
  have ho' : H[o]? = some (some ⟨.pi .i64 ps, g, .none, (if ps.length ≤ 1 then 0 else 1), true, false, 0⟩) := ho
  simp only [appendV, und25, size3, zok3]
  simp [srcV, payB, plen, live, ho', psub, papp, pesz, ptag, joinTag, hroom, upd, pRow, h0]

/-- the rows' order: each length once, all of them -/
def okKs (ks done : List Int) : Prop := ks.Nodup ∧ ∀ x, x ∈ ks ↔ x ∈ done

theorem xs16_at {x : Int} (h : 0 ≤ x ∧ x ≤ 15) : xs16[x.toNat]? = some x := by
  have hx : x = 0 ∨ x = 1 ∨ x = 2 ∨ x = 3 ∨ x = 4 ∨ x = 5 ∨ x = 6 ∨ x = 7 ∨ x = 8 ∨ x = 9 ∨ x = 10 ∨ x = 11 ∨ x = 12 ∨ x = 13 ∨ x = 14 ∨ x = 15 := by omega
  rcases hx with rfl | rfl | rfl | rfl | rfl | rfl | rfl | rfl | rfl | rfl | rfl | rfl | rfl | rfl | rfl | rfl <;> rfl

theorem xs16_get {j : Nat} (h : j < 16) : xs16[j]? = some (j : Int) := by
  have := xs16_at (x := (j : Int)) (by omega)
  rwa [show ((j : Int)).toNat = j by omega] at this

theorem syMap_set (d tn : Nat) (ks ks' done : List Int) (x : Int) (v : AV) (hx : 0 ≤ x ∧ x ≤ 15) (hv : v = syV d tn ks' (done ++ [x]) true x) (hk : ∀ y, y ≠ x → ((y ∈ ks' ↔ y ∈ ks) ∧ (y ∈ ks → ks'.idxOf y = ks.idxOf y))) :
    (xs16.map (syV d tn ks done true)).set x.toNat v = xs16.map (syV d tn ks' (done ++ [x]) true) := by
  refine List.ext_getElem? fun j => ?_
  rw [List.getElem?_set]
  by_cases hj : j < 16
  · by_cases e : x.toNat = j
    · subst e
      have : x.toNat < (xs16.map (syV d tn ks done true)).length := by simp [xs16]; omega
      rw [if_pos rfl, if_pos this, List.getElem?_map, xs16_at hx, hv]; rfl
    · rw [if_neg e, List.getElem?_map, List.getElem?_map, xs16_get hj]
      simp only [Option.map_some, Option.some.injEq]
      have hne : (j : Int) ≠ x := by omega
      obtain ⟨h1, h2⟩ := hk (j : Int) hne
      have hp : posL (j : Int) (done ++ [x]) 0 = posL (j : Int) done 0 := by
        rw [posL_snoc, if_neg (fun z => hne z.symm)]; simp
      unfold syV
      rw [hp]
      by_cases hm : (j : Int) ∈ ks
      · rw [if_pos hm, if_pos (h1.2 hm), h2 hm]
      · rw [if_neg hm, if_neg (fun z => hm (h1.1 z))]
  · have h1 : (xs16.map (syV d tn ks done true)).length ≤ j := by simp [xs16]; omega
    have h2 : (xs16.map (syV d tn ks' (done ++ [x]) true)).length ≤ j := by simp [xs16]; omega
    have h3 : ¬ x.toNat = j := by omega
    rw [if_neg h3, List.getElem?_eq_none h1, List.getElem?_eq_none h2]

/-- reader's append: the place i at the length x -/
theorem rd_step (Bx : List (Option AM.Obj)) (hB : Bx.length = 6) (ks done : List Int) (x : Int) (hx : 0 ≤ x ∧ x ≤ 15) (hk : okKs ks done) (hl : done.length ≤ 320) :
    ∃ o2 n2 g2 R' ks', appendV X (Bx ++ ks.map fun x => pRow (posL x done 0) ((posL x done 0).length - 1) 0) 25 (syV 6 0 ks done true x) (.ro 1 (.pi .i64 [(done.length : Int)]) 0) = some (.sl o2 0 n2 g2, Bx ++ R') ∧
      okKs ks' (done ++ [x]) ∧ (xs16.map (syV 6 0 ks done true)).set x.toNat (.sl o2 0 n2 g2) = xs16.map (syV 6 0 ks' (done ++ [x]) true) ∧ R' = ks'.map (fun y => pRow (posL y (done ++ [x]) 0) ((posL y (done ++ [x]) 0).length - 1) 0) := by
  have hpl : ∀ y (m : List Int) (i : Nat), (posL y m i).length ≤ m.length := by
    intro y m
    induction m with
    | nil => intro i; simp [posL]
    | cons z r ih => intro i; simp only [posL]; split <;> simp <;> have := ih (i + 1) <;> omega
  by_cases hin : x ∈ ks
  · -- there already
    have hxd : x ∈ done := (hk.2 x).1 hin
    have hne : posL x done 0 ≠ [] := fun z => (posL_nil x done 0).1 z hxd
    have hlen : 0 < (posL x done 0).length := List.length_pos_iff.2 hne
    have hix : ks.idxOf x < ks.length := List.idxOf_lt_length_of_mem hin
    have hat : (Bx ++ ks.map fun x => pRow (posL x done 0) ((posL x done 0).length - 1) 0)[6 + ks.idxOf x]? = some (pRow (posL x done 0) ((posL x done 0).length - 1) 0) := by
      rw [List.getElem?_append_right (by omega), hB, show 6 + ks.idxOf x - 6 = ks.idxOf x by omega, List.getElem?_map, List.getElem?_eq_getElem hix]
      simp
    have happ := app_row (done.length : Int) hat hne (by have := hpl x done 0; omega)
    have hv : syV 6 0 ks done true x = .sl (6 + ks.idxOf x) 0 (posL x done 0).length ((posL x done 0).length - 1) := by simp [syV, hin]
    rw [hv, happ]
    have hpx : posL x (done ++ [x]) 0 = posL x done 0 ++ [(done.length : Int)] := by rw [posL_snoc]; simp
    refine ⟨6 + ks.idxOf x, (posL x done 0).length + 1, (posL x done 0).length - 1 + 1, (ks.map fun x => pRow (posL x done 0) ((posL x done 0).length - 1) 0).set (ks.idxOf x) (pRow (posL x done 0 ++ [(done.length : Int)]) ((posL x done 0).length - 1 + 1) 0), ks, ?_, ⟨hk.1, ?_⟩, ?_, ?_⟩
    · rw [List.set_append_right _ _ (by omega), hB, show 6 + ks.idxOf x - 6 = ks.idxOf x by omega]
    · intro y
      rw [hk.2 y]
      simp only [List.mem_append, List.mem_singleton]
      exact ⟨fun h => .inl h, fun h => h.elim id (fun e => e ▸ hxd)⟩
    · refine syMap_set 6 0 ks ks done x _ hx ?_ fun y _ => ⟨Iff.rfl, fun _ => rfl⟩
      unfold syV
      rw [if_pos hin, hpx]
      simp
      omega
    · refine List.ext_getElem? fun j => ?_
      rw [List.getElem?_set]
      by_cases hj : j < ks.length
      · by_cases e : ks.idxOf x = j
        · subst e
          rw [if_pos rfl, if_pos (by simpa using hix), List.getElem?_map, List.getElem?_eq_getElem hix]
          simp only [Option.map_some, Option.some.injEq]
          rw [List.getElem_idxOf, hpx]
          simp
          congr 1; omega
        · rw [if_neg e, List.getElem?_map, List.getElem?_map, List.getElem?_eq_getElem hj]
          simp only [Option.map_some, Option.some.injEq]
          have hne2 : ¬ x = ks[j] := by
            intro z
            apply e
            rw [z]
            exact List.Nodup.idxOf_getElem hk.1 j hj
          rw [posL_snoc, if_neg hne2]; simp
      · rw [List.getElem?_eq_none (by simp; omega)]
        rw [if_neg (by omega), List.getElem?_eq_none (by simp; omega)]
  · have hxd : x ∉ done := fun h => hin ((hk.2 x).2 h)
    have hp0 : posL x done 0 = [] := (posL_nil x done 0).2 hxd
    have hv : syV 6 0 ks done true x = .ro 0 .pn 0 := by simp [syV, hin]
    have hpx : posL x (done ++ [x]) 0 = [(done.length : Int)] := by rw [posL_snoc, hp0]; simp
    rw [hv, app_nil]
    have hix : (ks ++ [x]).idxOf x = ks.length := by
      rw [List.idxOf_append, if_neg hin]; simp
    refine ⟨(Bx ++ ks.map fun x => pRow (posL x done 0) ((posL x done 0).length - 1) 0).length, 1, 0, (ks.map fun x => pRow (posL x done 0) ((posL x done 0).length - 1) 0) ++ [pRow [(done.length : Int)] 0 0], ks ++ [x], ?_, ⟨?_, ?_⟩, ?_, ?_⟩
    · rw [List.append_assoc]
    · rw [List.nodup_append]
      exact ⟨hk.1, by simp, fun a ha b hb => by simp at hb; subst hb; rintro rfl; exact hin ha⟩
    · intro y
      simp only [List.mem_append, List.mem_singleton, hk.2 y]
    · refine syMap_set 6 0 ks (ks ++ [x]) done x _ hx ?_ fun y hy => ⟨by simp [hy], fun h => by rw [List.idxOf_append, if_pos h]⟩
      unfold syV
      rw [if_pos (by simp), hpx, hix]
      simp [hB]
    · rw [List.map_append]
      congr 1
      · refine List.map_congr_left fun y hy => ?_
        have : ¬ x = y := fun z => hin (z ▸ hy)
        rw [posL_snoc, if_neg this]; simp
      · simp [hpx]

end Go.Proofs.Ytikleidhmekgnaa
