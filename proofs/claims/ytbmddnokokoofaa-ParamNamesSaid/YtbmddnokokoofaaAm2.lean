/- The abstract machine, part 2: a deterministic evaluator for the program's code and the proof that what it tells is so. Conditions: none beyond the theorems' own. -/
import Derived.Calls
import Derived.Laws.Sem
import Derived.Orders
import Derived.Test.YtbmddnokokoofaaAm1
set_option linter.unusedSimpArgs false
set_option linter.unusedVariables false
/- Structs and arrays built; slice literals. -/
namespace Go.AM

theorem foldl_set (off : Nat) : ∀ (l : List Value) (i : Nat) (cells : Array Value), off + i + l.length ≤ cells.size →
    ((l.zipIdx i).foldl (fun (cs : Array Value) (x : Value × Nat) => cs.setIfInBounds (off + x.2) x.1) cells).size = cells.size ∧
    ∀ k, ((l.zipIdx i).foldl (fun (cs : Array Value) (x : Value × Nat) => cs.setIfInBounds (off + x.2) x.1) cells)[k]? = if off + i ≤ k ∧ k < off + i + l.length then l[k - (off + i)]? else cells[k]?
  | [], i, cells, h => by
    refine ⟨rfl, fun k => ?_⟩
    rw [if_neg (by simp only [List.length_nil]; omega)]
    rfl
  | a :: t, i, cells, h => by
    simp only [List.length_cons] at h
    obtain ⟨h1, h2⟩ := foldl_set off t (i + 1) (cells.setIfInBounds (off + i) a) (by simp; omega)
    simp only [List.zipIdx_cons, List.foldl_cons]
    refine ⟨h1.trans (by simp), fun k => ?_⟩
    rw [h2 k]
    simp only [List.length_cons]
    by_cases hk : off + i = k
    · subst hk
      rw [if_neg (by omega), if_pos (by omega)]
      rw [Array.getElem?_setIfInBounds]
      simp
      omega
    · rw [Array.getElem?_setIfInBounds_ne hk]
      by_cases hk2 : off + (i + 1) ≤ k ∧ k < off + (i + 1) + t.length
      · rw [if_pos hk2, if_pos (by omega)]
        rw [show k - (off + i) = (k - (off + (i + 1))) + 1 by omega]
        simp
      · rw [if_neg hk2, if_neg (by omega)]

theorem fill_step {off : Nat} {v : Value} {cells : Array Value} (h : off + v.cells.size ≤ cells.size) :
    (v.cells.zipIdx.foldl (fun cs (x : Value × Nat) => cs.setIfInBounds (off + x.2) x.1) cells).size = cells.size ∧
    ∀ k, (v.cells.zipIdx.foldl (fun cs (x : Value × Nat) => cs.setIfInBounds (off + x.2) x.1) cells)[k]? = if off ≤ k ∧ k < off + v.cells.size then v.cells[k - off]? else cells[k]? := by
  rw [← Array.foldl_toList, Array.toList_zipIdx]
  have := foldl_set off v.cells.toList 0 cells (by simpa using h)
  simpa using this

/-- parts and where they go -/
def PlRel (K : Kx) (T : Nat → Nat → Prop) (place : Nat → Option (Nat × Nat)) : List (Nat × Nat × AV) → List (Nat × Value) → Prop
  | [], [] => True
  | (off, size, a) :: r, (i, v) :: s => place i = some (off, size) ∧ VRel K T a v ∧ PlRel K T place r s
  | _, _ => False

theorem fill_ok {K : Kx} {T : Nat → Nat → Prop} {place : Nat → Option (Nat × Nat)} : ∀ {ps : List (Nat × Nat × AV)} {vs : List (Nat × Value)} {c c' : List AV} {cells : Array Value},
    PlRel K T place ps vs → CRel K T c (fun j => cells[j]?) → c.length = cells.size → fillCells c ps = some c' →
    ∃ cells' : Array Value, Instr.fill place cells vs = some cells' ∧ CRel K T c' (fun j => cells'[j]?) ∧ c'.length = cells'.size
  | [], [], c, c', cells, _, hc, hl, h => by
    simp only [fillCells, Option.some.injEq] at h
    subst h
    exact ⟨cells, rfl, hc, hl⟩
  | (off, size, a) :: r, (i, v) :: s, c, c', cells, hp, hc, hl, h => by
    obtain ⟨h1, h2, h3⟩ := hp
    simp only [fillCells] at h
    split at h
    · rename_i hd
      obtain ⟨e1, e2, e3⟩ := hd
      obtain ⟨h4, h5⟩ := cellsAV_rel h2 e3
      have hle : off + v.cells.size ≤ cells.size := by omega
      obtain ⟨h6, h7⟩ := fill_step hle
      have hspl : off + (cellsAV a).length ≤ c.length := by omega
      obtain ⟨cells', h8, h9, h10⟩ := fill_ok (c := splice c off (cellsAV a)) h3 (cells := v.cells.zipIdx.foldl (fun cs (x : Value × Nat) => cs.setIfInBounds (off + x.2) x.1) cells) (fun j b hb => by
        simp only
        rw [h7 j, h5]
        rw [splice_get hspl] at hb
        split at hb
        · rename_i hj
          rw [if_pos hj]
          exact h4 _ b hb
        · rename_i hj
          rw [if_neg hj]
          exact hc _ b hb) (by rw [splice_len hspl, h6]; exact hl) h
      refine ⟨cells', ?_, h9, h10⟩
      simp only [Instr.fill, h1]
      rw [if_neg (by simp; omega)]
      exact h8
    · cases h
  | [], _ :: _, _, _, _, hp, _, _, _ => by simp [PlRel] at hp
  | _ :: _, [], _, _, _, hp, _, _, _ => by simp [PlRel] at hp

/-- parts -/
def PartsRel (K : Kx) (T : Nat → Nat → Prop) : List (Nat × AV) → List (Nat × Value) → Prop
  | [], [] => True
  | (i, a) :: r, (j, v) :: s => i = j ∧ VRel K T a v ∧ PartsRel K T r s
  | _, _ => False

theorem known_some {C : Ctx} {t : TypeId} (h : known C t = true) : ∃ i, C.P.info? t = some i ∧ i.size = sizeT C t := by
  unfold known at h
  obtain ⟨i, hi⟩ := Option.isSome_iff_exists.1 h
  exact ⟨i, hi, by simp [sizeT, hi]⟩

theorem run_known {C : Ctx} {w : World} {t : TypeId} (h : known C t = true) : (sizeOf t).run C.P w = .ok (sizeT C t) w := by
  obtain ⟨i, hi, hs⟩ := known_some h
  simp [sizeOf, typeInfo, hi, hs]

theorem run_places {C : Ctx} {w : World} : ∀ (fs : List Field), fs.all (fun f => known C f.type) = true →
    (fs.mapM fun (f : Field) => do pure (f.offset, ← sizeOf f.type)).run C.P w = .ok (fs.map fun f => (f.offset, sizeT C f.type)) w
  | [], _ => by simp [List.mapM_nil]
  | f :: r, h => by
    simp only [List.all_cons, Bool.and_eq_true] at h
    have hs := run_known (w := w) h.1
    have ih := run_places (w := w) r h.2
    simp only [List.mapM_cons, Sem.run_bind, hs, ih, Result.andThen_ok, Sem.run_pure, List.map_cons]

theorem places_rel {C : Ctx} {K : Kx} {T : Nat → Nat → Prop} {fs : List Field} : ∀ {parts : List (Nat × AV)} {vs : List (Nat × Value)} {ps : List (Nat × Nat × AV)}, PartsRel K T parts vs → placesS C fs parts = some ps →
    PlRel K T ((fs.map fun f => (f.offset, sizeT C f.type)).toArray[·]?) ps vs
  | [], [], ps, _, h => by simp only [placesS, Option.some.injEq] at h; subst h; trivial
  | (i, a) :: r, (j, v) :: s, ps, hp, h => by
    obtain ⟨rfl, h1, h2⟩ := hp
    simp only [placesS] at h
    split at h
    · rename_i f hf
      cases hr : placesS C fs r with
      | none => rw [hr] at h; cases h
      | some q =>
        rw [hr] at h
        simp only [Option.map_some, Option.some.injEq] at h
        subst h
        exact ⟨by simp [hf], h1, places_rel h2 hr⟩
    · cases h
  | [], _ :: _, _, hp, _ => by simp [PartsRel] at hp
  | _ :: _, [], _, hp, _ => by simp [PartsRel] at hp

theorem places_arr {K : Kx} {T : Nat → Nat → Prop} {n : Nat} : ∀ {parts : List (Nat × AV)} {vs : List (Nat × Value)}, PartsRel K T parts vs →
    PlRel K T (fun i => some (i * n, n)) (parts.map fun (i, v) => (i * n, n, v)) vs
  | [], [], _ => by trivial
  | (i, a) :: r, (j, v) :: s, hp => by
    obtain ⟨rfl, h1, h2⟩ := hp
    exact ⟨rfl, h1, places_arr h2⟩
  | [], _ :: _, hp => by simp [PartsRel] at hp
  | _ :: _, [], hp => by simp [PartsRel] at hp

theorem buildV_ok {C : Ctx} {K : Kx} {T : Nat → Nat → Prop} {t : TypeId} {parts : List (Nat × AV)} {vs : Array (Nat × Value)} {x : AV} (hp : PartsRel K T parts vs.toList) (h : buildV C t parts = some x) :
    ∃ u, (Instr.build t vs).run C.P K.w = .ok u K.w ∧ VRel K T x u := by
  unfold buildV at h
  split at h
  · rename_i z hz
    obtain ⟨zv, hzr, hzv, _⟩ := zero_ok (K := K) (T := T) (p := .agg z) hz (by simp)
    split at h
    · rename_i hsc
      obtain ⟨hc1, hc2⟩ := cellsAV_rel hzv hsc
      have fin : ∀ {c : List AV} {cells : Array Value}, CRel K T c (fun j => cells[j]?) → c.length = cells.size → (mkAgg C t c).map AV.agg = some x → VRel K T x (.agg cells) := by
        intro c cells h1 h2 h3
        cases hm : mkAgg C t c with
        | none => rw [hm] at h3; cases h3
        | some p =>
          rw [hm] at h3
          simp only [Option.map_some, Option.some.injEq] at h3
          subst h3
          obtain ⟨h4, h5⟩ := mkAgg_rel h1 hm
          simp only [VRel, V1Rel]
          exact ⟨cells, rfl, by omega, h4⟩
      split at h
      · rename_i fs hu
        have hu' := und_some hu (by simp)
        split at h
        · rename_i hk
          cases hq : placesS C fs.toList parts with
          | none => rw [hq] at h; cases h
          | some ps =>
            rw [hq] at h
            simp only [Option.bind_some] at h
            cases hf : fillCells (cellsOf z) ps with
            | none => rw [hf] at h; cases h
            | some c =>
              rw [hf] at h
              simp only [Option.bind_some] at h
              obtain ⟨cells, h1, h2, h3⟩ := fill_ok (places_rel hp hq) hc1 hc2.symm hf
              refine ⟨_, ?_, fin h2 h3 h⟩
              have hpl := run_places (C := C) (w := K.w) fs.toList hk
              simp only [Instr.build, Sem.run_bind, hzr, Result.andThen_ok, run_und hu', Array.mapM_eq_mapM_toList, Sem.run_map, hpl]
              have h1' : Instr.fill (fun x => (List.map (fun f => (f.offset, sizeT C f.type)) fs.toList).toArray[x]?) zv.cells vs.toList = some cells := h1
              simp only [h1', Sem.run_pure]
        · cases h
      · rename_i n e hu
        have hu' := und_some hu (by simp)
        split at h
        · rename_i hk
          obtain ⟨i, hi, his⟩ := known_some hk
          cases hf : fillCells (cellsOf z) (parts.map fun (i, v) => (i * sizeT C e, sizeT C e, v)) with
          | none => rw [hf] at h; cases h
          | some c =>
            rw [hf] at h
            simp only [Option.bind_some] at h
            obtain ⟨cells, h1, h2, h3⟩ := fill_ok (places_arr hp) hc1 hc2.symm hf
            refine ⟨_, ?_, fin h2 h3 h⟩
            simp [Instr.build, hzr, run_und hu', sizeOf, typeInfo, hi, his, h1]
        · cases h
      · cases h
    · cases h
  · cases h

theorem V1Rel.v {K : Kx} {T : Nat → Nat → Prop} {a : AV} {v : Value} (h : V1Rel K T a v) : VRel K T a v := by
  cases a <;> first | exact h | (simp [V1Rel, SRel, RV] at h; done)

theorem VRel.v1 {K : Kx} {T : Nat → Nat → Prop} {a : AV} {v : Value} (h : VRel K T a v) (hs : scalars (cellsAV a) = true) : V1Rel K T a v := by
  cases a <;> first | exact h | (simp [cellsAV, scalars, scalar] at hs; done)

/-- elements of es cells each, side by side -/
def ERow (K : Kx) (T : Nat → Nat → Prop) (es : Nat) (l : List AV) (r : Nat → Value) (cells : Array Value) : Prop :=
  cells.size = l.length * es ∧ ∀ (j : Nat) (a : AV), l[j]? = some a → V1Rel K T a (r j) ∧ (r j).cells.size = es ∧ ∀ k, k < es → cells[j * es + k]? = (r j).cells[k]?

theorem setParts_ok {K : Kx} {T : Nat → Nat → Prop} {es : Nat} : ∀ {parts : List (Nat × AV)} {vs : List (Nat × Value)} {l l' : List AV} {r : Nat → Value} {cells : Array Value},
    PartsRel K T parts vs → ERow K T es l r cells → setParts es l parts = some l' →
    ∃ (r' : Nat → Value) (cells' : Array Value), Instr.fill (fun i => some (i * es, es)) cells vs = some cells' ∧ ERow K T es l' r' cells' ∧ l'.length = l.length
  | [], [], l, l', r, cells, _, hE, h => by
    simp only [setParts, Option.some.injEq] at h
    subst h
    exact ⟨r, cells, rfl, hE, rfl⟩
  | (i, a) :: ps, (j, v) :: s, l, l', r, cells, hp, hE, h => by
    obtain ⟨rfl, h1, h2⟩ := hp
    simp only [setParts] at h
    split at h
    · rename_i hc
      obtain ⟨c1, c2, c3⟩ := hc
      obtain ⟨h3, h4⟩ := cellsAV_rel h1 c3
      have hle : i * es + es ≤ l.length * es := by rw [← Nat.succ_mul]; exact Nat.mul_le_mul_right _ c1
      have hv : v.cells.size = es := h4.trans c2
      obtain ⟨h5, h6⟩ := fill_step (off := i * es) (v := v) (cells := cells) (by rw [hv, hE.1]; exact hle)
      obtain ⟨r', cells', h7, h8, h9⟩ := setParts_ok (l := l.set i a) (r := fun k => if k = i then v else r k) (cells := v.cells.zipIdx.foldl (fun cs (x : Value × Nat) => cs.setIfInBounds (i * es + x.2) x.1) cells) h2 (by
        refine ⟨by rw [h5, hE.1]; simp, fun j b hb => ?_⟩
        rcases get_set hb with ⟨e, rfl, hj⟩ | ⟨e, hb⟩
        · subst e
          simp only [if_true]
          refine ⟨h1.v1 c3, hv, fun k hk => ?_⟩
          rw [h6, if_pos (by omega)]
          congr 1; omega
        · simp only [if_neg (Ne.symm e)]
          obtain ⟨e1, e2, e3⟩ := hE.2 j b hb
          refine ⟨e1, e2, fun k hk => ?_⟩
          rw [h6, if_neg, e3 k hk]
          rintro ⟨g1, g2⟩
          rcases Nat.lt_or_gt_of_ne e with e | e
          · have := Nat.mul_le_mul_right es (show i + 1 ≤ j from e)
            rw [Nat.add_mul] at this
            omega
          · have := Nat.mul_le_mul_right es (show j + 1 ≤ i from e)
            rw [Nat.add_mul] at this
            omega) h
      refine ⟨r', cells', ?_, h8, h9.trans (by simp)⟩
      have hsz := hE.1
      simp only [Instr.fill]
      rw [if_neg (by simp; omega)]
      exact h7
    · cases h
  | [], _ :: _, _, _, _, _, hp, _, _ => by simp [PartsRel] at hp
  | _ :: _, [], _, _, _, _, hp, _, _ => by simp [PartsRel] at hp

theorem freezePs_ok {C : Ctx} {T : Nat → Nat → Prop} : ∀ {l l' : List AV} {K : Kx} {H' : Heap} {r : Nat → Value}, Inv C K T → (∀ (j : Nat) (a : AV), l[j]? = some a → V1Rel K T a (r j)) → freezePs K.H l = some (l', H') →
    Inv C ⟨K.μ, H', K.w⟩ T ∧ Evo T K.H.length K ⟨K.μ, H', K.w⟩ ∧ H'.length = K.H.length ∧ l'.length = l.length ∧ ∀ (j : Nat) (a : AV), l'[j]? = some a → V1Rel ⟨K.μ, H', K.w⟩ T a (r j)
  | [], l', K, H', r, hI, hr, h => by
    simp only [freezePs, Option.some.injEq, Prod.mk.injEq] at h
    obtain ⟨rfl, rfl⟩ := h
    exact ⟨hI, Evo.refl T K (Nat.le_refl _), rfl, rfl, by simp⟩
  | a :: t, l', K, H', r, hI, hr, h => by
    simp only [freezePs] at h
    split at h
    · rename_i a' H1 h1
      obtain ⟨i1, e1, n1, s1⟩ := freezeP_ok hI (hr 0 a rfl) h1
      split at h
      · rename_i t' H2 h2
        simp only [Option.some.injEq, Prod.mk.injEq] at h
        obtain ⟨rfl, rfl⟩ := h
        obtain ⟨i2, e2, n2, m2, s2⟩ := freezePs_ok (K := ⟨K.μ, H1, K.w⟩) (r := fun j => r (j + 1)) i1 (fun j b hb => V1Rel.evo e1 (Nat.le_refl _) (hr (j + 1) b (by simpa using hb))) h2
        refine ⟨i2, Evo.trans e1 e2 (by show K.H.length ≤ H1.length; omega), n2.trans n1, by simp [m2], fun j b hb => ?_⟩
        cases j with
        | zero => simp at hb; subst hb; exact V1Rel.evo e2 (Nat.le_refl _) s1
        | succ j => exact s2 j b (by simpa using hb)
      · cases h
    · cases h

theorem asRows_some {e : Nat} : ∀ {l rows : List AV}, asRows e l = some rows → rows.length = l.length ∧ idsL rows = idsL l ∧ tagsL rows = tagsL l ∧
    ∀ (j : Nat) (a : AV), rows[j]? = some a → ∃ r, a = .pc r ∧ r.length = e ∧ scalars r = true ∧ l[j]? = some (.agg (.pc r))
  | [], rows, h => by simp only [asRows, Option.some.injEq] at h; subst h; simp
  | a :: t, rows, h => by
    unfold asRows at h
    split at h
    · rename_i heq; simp at heq
    · rename_i r t' heq
      simp only [List.cons.injEq] at heq
      obtain ⟨rfl, rfl⟩ := heq
      split at h
      · rename_i hc
        cases hr : asRows e t with
        | none => rw [hr] at h; cases h
        | some q =>
          rw [hr] at h
          simp only [Option.map_some, Option.some.injEq] at h
          subst h
          obtain ⟨h1, h2, h3, h4⟩ := asRows_some hr
          refine ⟨by simp [h1], by simp [idsL, ids, h2], by simp [tagsL, tags, h3], fun j b hb => ?_⟩
          cases j with
          | zero => simp at hb; subst hb; exact ⟨r, rfl, hc.1, hc.2, rfl⟩
          | succ j => simpa using h4 j b (by simpa using hb)
      · cases h
    · cases h

theorem cells_one {K : Kx} {T : Nat → Nat → Prop} {a : AV} {v : Value} (h : V1Rel K T a v) (hs : scalar a = true) : v.cells = #[v] ∧ v.oneCell' = true ∧ SRel K T a v := by
  have h1 := SRel.of_v hs h.v
  have h2 := SRel.cell hs h1
  refine ⟨?_, h2, h1⟩
  cases v <;> first | rfl | (simp [Value.oneCell'] at h2)

theorem ERow.one {K : Kx} {T : Nat → Nat → Prop} {es : Nat} {l : List AV} {r : Nat → Value} {cells : Array Value} (hE : ERow K T es l r cells) {j : Nat} {a : AV} (ha : l[j]? = some a) (hs : scalar a = true) :
    es = 1 ∧ ∃ v, cells[j]? = some v ∧ v.oneCell' = true ∧ SRel K T a v := by
  obtain ⟨h1, h2, h3⟩ := hE.2 j a ha
  obtain ⟨h4, h5, h6⟩ := cells_one h1 hs
  have he : es = 1 := by rw [← h2, h4]; rfl
  subst he
  refine ⟨rfl, r j, ?_, h5, h6⟩
  have := h3 0 (by omega)
  rw [h4] at this
  simpa using this

theorem mkRow_rel {C : Ctx} {K : Kx} {T : Nat → Nat → Prop} {e : TypeId} {l : List AV} {r : Nat → Value} {cells : Array Value} {p : AV} (hE : ERow K T (sizeT C e) l r cells) (hpos : 0 < sizeT C e) (h : mkRow C e l = some p) :
    PRel K T p (fun j => cells[j]?) ∧ plen p = l.length ∧ plen p * pesz p ≤ cells.size ∧ (∀ x ∈ ids p, x ∈ idsL l) ∧ (∀ x ∈ tags p, x ∈ tagsL l) := by
  have flat : ∀ {p : AV}, plen p = l.length → pesz p = 1 → (∀ (j : Nat) (a : AV), l[j]? = some a → sizeT C e = 1) → plen p * pesz p ≤ cells.size := by
    intro p h1 h2 h3
    rw [h1, h2, hE.1]
    cases l with
    | nil => simp
    | cons a t => rw [h3 0 a rfl]; exact Nat.le_refl _
  unfold mkRow at h
  have ints : ∀ {k : IntKind}, (asInts k l).map (AV.pi k) = some p → PRel K T p (fun j => cells[j]?) ∧ plen p = l.length ∧ plen p * pesz p ≤ cells.size ∧ (∀ x ∈ ids p, x ∈ idsL l) ∧ (∀ x ∈ tags p, x ∈ tagsL l) := by
    intro k h
    cases hb : asInts k l with
    | none => rw [hb] at h; cases h
    | some bs =>
      rw [hb] at h
      simp only [Option.map_some, Option.some.injEq] at h
      subst h
      obtain ⟨h1, h2⟩ := asInts_some hb
      refine ⟨fun j b hj => ?_, by simpa [plen] using h1, flat (by simpa [plen] using h1) rfl (fun j a ha => ?_), by simp [ids], by simp [tags]⟩
      · obtain ⟨_, v, h4, _, h6⟩ := hE.one (h2 j b hj) rfl
        simp only [SRel, RV] at h6
        show cells[j]? = _
        rw [h4, h6]
      · have hj := (List.getElem?_eq_some_iff.1 ha).1
        exact (hE.one (h2 j bs[j] (List.getElem?_eq_getElem (by omega))) rfl).1
  split at h
  · cases hb : asBytes l with
    | none => rw [hb] at h; cases h
    | some bs =>
      rw [hb] at h
      simp only [Option.map_some, Option.some.injEq] at h
      subst h
      obtain ⟨h1, h2⟩ := asBytes_some hb
      refine ⟨fun j b hj => ?_, by simpa [plen] using h1, flat (by simpa [plen] using h1) rfl (fun j a ha => ?_), by simp [ids], by simp [tags]⟩
      · obtain ⟨_, v, h4, _, h6⟩ := hE.one (h2 j b hj) rfl
        simp only [SRel, RV] at h6
        show cells[j]? = _
        rw [h4, h6]
      · have hj := (List.getElem?_eq_some_iff.1 ha).1
        exact (hE.one (h2 j bs[j] (List.getElem?_eq_getElem (by omega))) rfl).1
  · exact ints h
  iterate 2
    cases hb : asRows (sizeT C e) l with
    | none => rw [hb] at h; cases h
    | some rows =>
      rw [hb] at h
      simp only [Option.map_some, Option.some.injEq] at h
      subst h
      obtain ⟨h1, h2, h3, h4⟩ := asRows_some hb
      refine ⟨⟨hpos, fun j a ha => ?_⟩, by simpa [plen] using h1, by simp only [plen, pesz]; rw [h1, hE.1]; exact Nat.le_refl _, by simp [ids, h2], by simp [tags, h3]⟩
      obtain ⟨cs, rfl, h5, h6, h7⟩ := h4 j a ha
      obtain ⟨g1, g2, g3⟩ := hE.2 j _ h7
      simp only [V1Rel] at g1
      obtain ⟨as, g4, g5, g6⟩ := g1
      refine ⟨cs, rfl, h5, fun k b hb => ?_⟩
      obtain ⟨v, g7, g8, g9⟩ := g6 k b hb
      refine ⟨v, ?_, g8, g9⟩
      have hk : k < sizeT C e := by have := (List.getElem?_eq_some_iff.1 hb).1; omega
      show cells[j * sizeT C e + k]? = some v
      rw [g3 k hk, g4]
      exact g7
  · split at h
    · rename_i hs
      simp only [Option.some.injEq] at h
      subst h
      refine ⟨fun j a ha => (hE.one ha (scalars_mem hs a (List.mem_of_getElem? ha))).2, rfl, flat rfl rfl (fun j a ha => (hE.one ha (scalars_mem hs a (List.mem_of_getElem? ha))).1), by simp [ids], by simp [tags]⟩
    · cases h

theorem litRow_ok {C : Ctx} {K : Kx} {T : Nat → Nat → Prop} (hI : Inv C K T) {e : TypeId} {l : List AV} {r : Nat → Value} {cells : Array Value} {x : AV} (hE : ERow K T (sizeT C e) l r cells) (hpos : 0 < sizeT C e) (h : litRow C e l = some x)
    (hid : idsL l = []) : Inv C ⟨K.μ, K.H, K.w.alloc (.cells cells e)⟩ T ∧ Evo T K.H.length K ⟨K.μ, K.H, K.w.alloc (.cells cells e)⟩ ∧
      VRel ⟨K.μ, K.H, K.w.alloc (.cells cells e)⟩ T x (.slice (some ⟨K.w.heap.size, 0, none⟩) l.length l.length) := by
  unfold litRow at h
  split at h
  · rename_i p tg hp ht
    simp only [Option.some.injEq] at h
    subst h
    obtain ⟨h1, h2, h3, h4, h5⟩ := mkRow_rel hE hpos hp
    obtain ⟨i1, e1⟩ := Inv.world (w' := K.w.alloc (.cells cells e)) hI (by simp) rfl rfl rfl (fun b hb => .inl (alloc_old _ _ hb))
    refine ⟨i1, e1, ?_⟩
    simp only [VRel, V1Rel, SRel, RV]
    refine ⟨_, _, by rw [h2], ⟨by omega, fun h => absurd h (by decide), fun _ => rfl, fun _ => h2.symm⟩, fun a ha hn => ?_⟩
    simp only [Option.some.injEq] at ha
    subst ha
    have hj := joinTags_ok hI.mono ht
    have hr : GP (RV K.w (NT K T tg)) p (fun j => cells[j]?) := GP.rv h1 (fun x hx => by have := h4 x hx; rw [hid] at this; simp at this) (fun t ht' => hj t (h5 t ht'))
    refine ⟨rfl, ⟨hI.mono _ _ (hI.new _ (Nat.le_refl _)), ?_, by simp⟩, ?_⟩
    · rintro ⟨o, ob, ho, hR, hb⟩
      have := (hI.own _ ⟨o, ob, ho, hR, hb⟩).1
      exact absurd this (Nat.lt_irrefl _)
    · refine RP_mono (fun b hb => NT.evo e1 hb) p _ _ (fun j u hu => ?_) (RP_GP.2 hr)
      simp only [World.cell?, alloc_new, Nat.zero_add]
      simpa using hu
  · cases h

theorem run_buildSlice {C : Ctx} {w : World} {t e : TypeId} (hu : C.P.underlying t = some (.slice e)) {n : Nat} {vs : Array (Nat × Value)} {z : Value} {cells' : Array Value} (hz : (zeroValue e).run C.P w = .ok z w) (hpos : 0 < sizeT C e)
    (hle : n * sizeT C e ≤ 16777216) (hf : Instr.fill (fun i => some (i * sizeT C e, sizeT C e)) ((Array.range (n * sizeT C e)).map ((if n * sizeT C e = 0 then #[] else z.cells)[· % (if n * sizeT C e = 0 then #[] else z.cells).size]!)) vs.toList = some cells') :
    (Instr.buildSlice t n vs).run C.P w = .ok (.slice (some ⟨w.heap.size, 0, none⟩) n n) (w.alloc (.cells cells' e)) := by
  have hle' : ¬ (16777216 < n * sizeT C e) := by omega
  by_cases hn : n * sizeT C e = 0
  · have e0 : ∀ f : Nat → Value, (Array.range 0).map f = #[] := fun f => Array.eq_empty_of_size_eq_zero (by simp)
    simp only [hn, e0] at hf
    simp [Instr.buildSlice, run_und hu, run_sizeOf_pos (show sizeT C e ≠ 0 by omega), hn, newRow, e0, hf]
  · simp only [hn, if_false] at hf
    have hn2 : ¬ (n = 0 ∨ sizeT C e = 0) := fun h => hn (by rcases h with h | h <;> simp [h])
    simp only [Instr.buildSlice, Sem.run_bind, run_und hu, run_sizeOf_pos (show sizeT C e ≠ 0 by omega), Result.andThen_ok]
    rw [if_neg (by omega)]
    simp only [hn, if_false, Sem.run_bind, Sem.run_pure, hz, Result.andThen_ok, hf, newRow]
    simp

theorem buildSliceV_ok {C : Ctx} {K : Kx} {T : Nat → Nat → Prop} (hI : Inv C K T) {t : TypeId} {n : Nat} {parts : List (Nat × AV)} {vs : Array (Nat × Value)} {x : AV} {H' : Heap} (hp : PartsRel K T parts vs.toList)
    (h : buildSliceV C K.H t n parts = some (x, H')) :
    ∃ u w' μ', (Instr.buildSlice t n vs).run C.P K.w = .ok u w' ∧ Inv C ⟨μ', H', w'⟩ T ∧ Evo T K.H.length K ⟨μ', H', w'⟩ ∧ VRel ⟨μ', H', w'⟩ T x u := by
  unfold buildSliceV at h
  split at h
  · rename_i e hu
    have hu' := und_some hu (by simp)
    split at h
    · rename_i hc
      obtain ⟨hle, hpos, hzl, hzs⟩ := hc
      have hne : zeroAV C e ≠ .top := by
        intro h0
        rw [h0] at hzs
        simp [cellsAV, scalars, scalar] at hzs
      obtain ⟨z, hz, hzv, _⟩ := zero_ok (K := K) (T := T) rfl hne
      obtain ⟨_, hz2⟩ := cellsAV_rel hzv hzs
      have hzsz : z.cells.size = sizeT C e := hz2.trans hzl
      split at h
      · cases h
      · rename_i l hsp
        have hE0 : ERow K T (sizeT C e) (List.replicate n (zeroAV C e)) (fun _ => z) ((Array.range (n * sizeT C e)).map ((if n * sizeT C e = 0 then #[] else z.cells)[· % (if n * sizeT C e = 0 then #[] else z.cells).size]!)) := by
          refine ⟨by simp, fun j a ha => ?_⟩
          have hj : j < n := by have := (List.getElem?_eq_some_iff.1 ha).1; simpa using this
          have ha' : a = zeroAV C e := by
            rw [List.getElem?_replicate, if_pos hj] at ha
            simpa using ha.symm
          subst ha'
          refine ⟨hzv.v1 hzs, hzsz, fun k hk => ?_⟩
          have hlt : j * sizeT C e + k < n * sizeT C e := by
            have := Nat.mul_le_mul_right (sizeT C e) (show j + 1 ≤ n from hj)
            rw [Nat.add_mul] at this
            omega
          rw [if_neg (by omega), nat_range_get hlt (by omega), hzsz, Nat.mul_comm, Nat.mul_add_mod, Nat.mod_eq_of_lt hk]
        obtain ⟨r, cells, hf, hE, hlen⟩ := setParts_ok hp hE0 hsp
        have hlen' : l.length = n := by simpa using hlen
        have hrun := run_buildSlice hu' hz hpos hle hf
        split at h
        · rename_i hid
          cases hl : litRow C e l with
          | none => rw [hl] at h; cases h
          | some v =>
            rw [hl] at h
            simp only [Option.map_some, Option.some.injEq, Prod.mk.injEq] at h
            obtain ⟨rfl, rfl⟩ := h
            obtain ⟨i1, e1, v1⟩ := litRow_ok hI hE hpos hl (List.isEmpty_iff.1 hid)
            rw [hlen'] at v1
            exact ⟨_, _, _, hrun, i1, e1, v1⟩
        · split at h
          · cases h
          · split at h
            · cases h
            · rename_i l' H1 hfr
              obtain ⟨i2, e2, n2, m2, s2⟩ := freezePs_ok (r := r) hI (fun j a ha => (hE.2 j a ha).1) hfr
              have hE2 : ERow ⟨K.μ, H1, K.w⟩ T (sizeT C e) l' r cells := by
                refine ⟨by rw [hE.1, m2], fun j a ha => ⟨s2 j a ha, ?_⟩⟩
                have hj := (List.getElem?_eq_some_iff.1 ha).1
                exact (hE.2 j l[j] (List.getElem?_eq_getElem (by omega))).2
              split at h
              · rename_i hid
                cases hl : litRow C e l' with
                | none => rw [hl] at h; cases h
                | some v =>
                  rw [hl] at h
                  simp only [Option.map_some, Option.some.injEq, Prod.mk.injEq] at h
                  obtain ⟨rfl, rfl⟩ := h
                  obtain ⟨i1, e1, v1⟩ := litRow_ok i2 hE2 hpos hl (List.isEmpty_iff.1 hid)
                  rw [m2, hlen'] at v1
                  exact ⟨_, _, _, hrun, i1, Evo.trans e2 e1 (by show K.H.length ≤ H1.length; omega), v1⟩
              · cases hl : mkRow C e l' with
                | none => rw [hl] at h; cases h
                | some p =>
                  rw [hl] at h
                  simp only [Option.map_some, Option.some.injEq, Prod.mk.injEq] at h
                  obtain ⟨rfl, rfl⟩ := h
                  obtain ⟨h1, h2, h3, h4, h5⟩ := mkRow_rel hE2 hpos hl
                  have h2' : plen p = n := by omega
                  obtain ⟨hpos', hpm⟩ := h1.pos
                  obtain ⟨μ', g1, g2, g3⟩ := pushRow (K := ⟨K.μ, H1, K.w⟩) (T := T) (w' := K.w.alloc (.cells cells e)) (cs := cells) (E := e) (cap := n) i2 ⟨p, 0, some n, 1, true, true, 0⟩ rfl rfl (fun h => by cases h) hpm (by simp) rfl rfl rfl
                    (alloc_new _ _) (fun b hb => alloc_old _ _ hb) (by simp only; omega) (by simp only; rw [← h2']; exact h3) hpos' (fun c' hc' => by simpa using hc'.symm)
                    (by unfold PayOk; simp only [if_true]; exact h1)
                  refine ⟨_, _, μ', hrun, g1, Evo.trans e2 g2 (by show K.H.length ≤ H1.length; omega), ?_⟩
                  simp only [h2'] at g3
                  exact g3
    · cases h
  · cases h

end Go.AM

/- Builtins; one operation that is no call of a function. -/
namespace Go.AM

/-- arguments -/
def ArgsRel (K : Kx) (T : Nat → Nat → Prop) : List AV → List Value → Prop
  | [], [] => True
  | a :: r, v :: s => VRel K T a v ∧ ArgsRel K T r s
  | _, _ => False

theorem ArgsRel.nil {K : Kx} {T : Nat → Nat → Prop} {vs : List Value} (h : ArgsRel K T [] vs) : vs = [] := by
  cases vs with
  | nil => rfl
  | cons => exact h.elim

theorem ArgsRel.cons {K : Kx} {T : Nat → Nat → Prop} {a : AV} {r : List AV} {vs : List Value} (h : ArgsRel K T (a :: r) vs) : ∃ v s, vs = v :: s ∧ VRel K T a v ∧ ArgsRel K T r s := by
  cases vs with
  | nil => exact h.elim
  | cons v s => exact ⟨v, s, rfl, h⟩

theorem minmax_ok {P : Program} {w : World} {K : Kx} {T : Nat → Nat → Prop} : ∀ {l : List AV} {x r : AV} {v : Value} {vs : List Value}, VRel K T x v → ArgsRel K T l vs → ∀ b, minmax b x l = some r →
    ∃ u, (vs.foldlM (if b then Builtin.max2 else Builtin.min2) v).run P w = .ok u w ∧ VRel K T r u
  | [], x, r, v, vs, hv, ha, b, h => by
    rw [ha.nil]
    unfold minmax at h
    simp only [Option.some.injEq] at h
    subst h
    exact ⟨v, by simp, hv⟩
  | y :: l, x, r, v, vs, hv, ha, b, h => by
    obtain ⟨u, s, rfl, hu, hs⟩ := ha.cons
    unfold minmax at h
    split at h
    · rename_i heq; cases heq
    · rename_i k n k' m t heq
      simp only [List.cons.injEq] at heq
      obtain ⟨rfl, rfl⟩ := heq
      split at h
      · rename_i hk
        subst hk
        rw [hv.int, hu.int]
        obtain ⟨z, h1, h2⟩ := minmax_ok (P := P) (w := w) (K := K) (T := T) (v := .int k (if b then (if m > n then m else n) else (if m < n then m else n))) (by simp [VRel, V1Rel, SRel, RV]) hs b h
        refine ⟨z, ?_, h2⟩
        cases b
        · simp only [Bool.false_eq_true, if_false] at h1 ⊢
          simp only [List.foldlM_cons, Sem.run_bind, Builtin.min2, Sem.run_pure, Result.andThen_ok]
          exact h1
        · simp only [if_true] at h1 ⊢
          simp only [List.foldlM_cons, Sem.run_bind, Builtin.max2, Sem.run_pure, Result.andThen_ok]
          exact h1
      · cases h
    · cases h

theorem builtinV_ok {C : Ctx} {K : Kx} {T : Nat → Nat → Prop} (hI : Inv C K T) {b : Builtin} {ts : Array TypeId} {args : List AV} {vs : Array Value} {r : AV} {H' : Heap} (ha : ArgsRel K T args vs.toList)
    (h : builtinV C K.H b ts.toList args = some (r, H')) (ty : TypeId) (consts : Array Bool) : Res C T K r H' ((builtin b ts ty consts vs).run C.P K.w) := by
  have hts : ∀ {t : TypeId} {l : List TypeId}, ts.toList = t :: l → ts[0]? = some t := fun h => by
    rw [← Array.getElem?_toList, h]; rfl
  have hts1 : ∀ {t u : TypeId} {l : List TypeId}, ts.toList = t :: u :: l → ts[1]? = some u := fun h => by
    rw [← Array.getElem?_toList, h]; rfl
  have hvs : ∀ {t : Value} {l : List Value}, vs.toList = t :: l → vs[0]? = some t := fun h => by
    rw [← Array.getElem?_toList, h]; rfl
  have hvs1 : ∀ {t u : Value} {l : List Value}, vs.toList = t :: u :: l → vs[1]? = some u := fun h => by
    rw [← Array.getElem?_toList, h]; rfl
  unfold builtinV at h
  split at h
  · rename_i t _ x _ hte
    obtain ⟨v, s, hv, hx, _⟩ := ha.cons
    cases hl : lenV C K.H t x with
    | none => rw [hl] at h; cases h
    | some n =>
      rw [hl] at h
      simp only [Option.map_some, Option.some.injEq, Prod.mk.injEq] at h
      obtain ⟨rfl, rfl⟩ := h
      have := lenV_ok (ty := ty) hI hx hl (hts hte) (hvs hv)
      exact Res.same hI (v := .int .i64 n) (by simp [builtin, this]) (by simp [VRel, V1Rel, SRel, RV])
  · rename_i t _ x _ hte
    obtain ⟨v, s, hv, hx, _⟩ := ha.cons
    cases hl : capV C K.H t x with
    | none => rw [hl] at h; cases h
    | some n =>
      rw [hl] at h
      simp only [Option.map_some, Option.some.injEq, Prod.mk.injEq] at h
      obtain ⟨rfl, rfl⟩ := h
      have := capV_ok (ty := ty) hI hx hl (hts hte) (hvs hv)
      exact Res.same hI (v := .int .i64 n) (by simp [builtin, this]) (by simp [VRel, V1Rel, SRel, RV])
  · rename_i t u _ s x hte
    obtain ⟨v, s1, hv, hx, h1⟩ := ha.cons
    obtain ⟨v', s2, rfl, hx', h2⟩ := h1.cons
    split at h
    · rename_i hc
      obtain ⟨u, w', μ', h3, h4, h5, h6⟩ := appendV_ok (ty := ty) hI hx hx' h (hts hte) (hts1 hte) hc.1 hc.2 (hvs hv) (hvs1 hv)
      simp only [builtin, Sem.run_bind, h3, Result.andThen_ok, Sem.run_pure]
      exact ⟨μ', h4, h5, h6⟩
    · cases h
  · rename_i x l
    obtain ⟨v, s, hv, hx, h1⟩ := ha.cons
    cases hm : minmax true x l with
    | none => rw [hm] at h; cases h
    | some z =>
      rw [hm] at h
      simp only [Option.map_some, Option.some.injEq, Prod.mk.injEq] at h
      obtain ⟨rfl, rfl⟩ := h
      obtain ⟨u, h2, h3⟩ := minmax_ok (P := C.P) (w := K.w) hx h1 true hm
      simp only [if_true] at h2
      exact Res.same hI (v := u) (by simp only [builtin, Builtin.max_, hv, Sem.run_bind, h2, Result.andThen_ok, Sem.run_pure]) h3
  · rename_i x l
    obtain ⟨v, s, hv, hx, h1⟩ := ha.cons
    cases hm : minmax false x l with
    | none => rw [hm] at h; cases h
    | some z =>
      rw [hm] at h
      simp only [Option.map_some, Option.some.injEq, Prod.mk.injEq] at h
      obtain ⟨rfl, rfl⟩ := h
      obtain ⟨u, h2, h3⟩ := minmax_ok (P := C.P) (w := K.w) hx h1 false hm
      simp only [Bool.false_eq_true, if_false] at h2
      exact Res.same hI (v := u) (by simp only [builtin, Builtin.min_, hv, Sem.run_bind, h2, Result.andThen_ok, Sem.run_pure]) h3
  · cases h

end Go.AM

/- One operation that is no call of a function. -/
namespace Go.AM

def isFn : Op → Bool
  | .call c => match c.callee with
    | .value _ => true
    | _ => false
  | _ => false

theorem evalArgs_rel {C : Ctx} {K : Kx} {T : Nat → Nat → Prop} (hI : Inv C K T) {fr : Frame} {a : Act} (hf : FRel K T fr a.tmps) : ∀ (l : List Operand) (ts : List TypeId), ArgsRel K T (evalArgs C fr l ts) (l.map a.eval)
  | [], _ => trivial
  | x :: r, ts => by
    simp only [evalArgs, List.map_cons, ArgsRel]
    refine ⟨?_, evalArgs_rel hI hf r _⟩
    split
    · exact evalT_v hI hf _ x
    · exact evalO_v hI hf x

theorem evalParts_rel {C : Ctx} {K : Kx} {T : Nat → Nat → Prop} (hI : Inv C K T) {fr : Frame} {a : Act} (hf : FRel K T fr a.tmps) (t : TypeId) : ∀ (l : List (Nat × Operand)), PartsRel K T (evalParts C fr t l) (l.map fun x => (x.1, a.eval x.2))
  | [] => trivial
  | (_, x) :: r => ⟨rfl, evalT_v hI hf t x, evalParts_rel hI hf t r⟩

theorem step_ok {C : Ctx} {K : Kx} {T : Nat → Nat → Prop} (hI : Inv C K T) {fr : Frame} {a : Act} (hf : FRel K T fr a.tmps) {o : Oper} {cf : Cf} {x : AV} {H' : Heap} (hno : isFn o.op = false) (h : step C cf fr K.H o = some (x, H')) :
    Res C T K x H' ((execOp a.eval o).run C.P K.w) := by
  have eO : ∀ y, VRel K T (evalO C fr y) (a.eval y) := evalO_v hI hf
  have eT : ∀ t y, VRel K T (evalT C fr t y) (a.eval y) := evalT_v hI hf
  -- a value, the heap and the world as they were
  have same : ∀ {m : Option AV} {s : Sem Value}, (∀ y, m = some y → ∃ u, s.run C.P K.w = .ok u K.w ∧ VRel K T y u) → (m.map fun v => (v, K.H)) = some (x, H') →
      Res C T K x H' ((do pure (.value (← s)) : Sem Next).run C.P K.w) := by
    intro m s h1 h2
    cases m with
    | none => cases h2
    | some y =>
      simp only [Option.map_some, Option.some.injEq, Prod.mk.injEq] at h2
      obtain ⟨rfl, rfl⟩ := h2
      obtain ⟨u, h3, h4⟩ := h1 _ rfl
      exact Res.same hI (v := u) (by simp only [Sem.run_bind, h3, Result.andThen_ok, Sem.run_pure]) h4
  -- a value, the heap turned
  have turn : ∀ {s : Sem Value}, (∃ u w' μ', s.run C.P K.w = .ok u w' ∧ Inv C ⟨μ', H', w'⟩ T ∧ Evo T K.H.length K ⟨μ', H', w'⟩ ∧ VRel ⟨μ', H', w'⟩ T x u) →
      Res C T K x H' ((do pure (.value (← s)) : Sem Next).run C.P K.w) := by
    rintro s ⟨u, w', μ', h1, h2, h3, h4⟩
    simp only [Sem.run_bind, h1, Result.andThen_ok, Sem.run_pure]
    exact ⟨μ', h2, h3, h4⟩
  -- no value
  have skip : ∀ {s : Sem Unit} {m : Option Heap}, (∀ H1, m = some H1 → ∃ w' μ', s.run C.P K.w = .ok () w' ∧ Inv C ⟨μ', H1, w'⟩ T ∧ Evo T K.H.length K ⟨μ', H1, w'⟩) → (m.map fun H => (AV.top, H)) = some (x, H') →
      Res C T K x H' ((do s; pure .skip : Sem Next).run C.P K.w) := by
    intro s m h1 h2
    cases m with
    | none => cases h2
    | some H1 =>
      simp only [Option.map_some, Option.some.injEq, Prod.mk.injEq] at h2
      obtain ⟨rfl, rfl⟩ := h2
      obtain ⟨w', μ', h3, h4, h5⟩ := h1 _ rfl
      simp only [Sem.run_bind, h3, Result.andThen_ok, Sem.run_pure]
      exact ⟨μ', h4, h5, VRel.top _ _ _⟩
  unfold step at h
  unfold execOp
  cases hop : o.op <;> simp only [hop] at h ⊢
  case move y =>
    simp only [Option.some.injEq, Prod.mk.injEq] at h
    obtain ⟨rfl, rfl⟩ := h
    exact Res.same hI rfl (eT _ y)
  case assign y =>
    simp only [Option.some.injEq] at h
    obtain ⟨μ', h1, h2, h3⟩ := assignV_ok (t := o.type) hI (eT o.type y)
    rw [h] at h1 h2 h3
    exact ⟨μ', h1, h2, h3⟩
  case pick c y z =>
    have hc := eO c
    split at h
    · rename_i d hd
      rw [hd] at hc
      simp only [Option.some.injEq, Prod.mk.injEq] at h
      obtain ⟨rfl, rfl⟩ := h
      have hc' := hc.bool
      cases d
      · exact Res.same hI (v := a.eval z) (by rw [hc']; simp [asBool]) (eT _ z)
      · exact Res.same hI (v := a.eval y) (by rw [hc']; simp [asBool]) (eT _ y)
    · cases h
  case alloc t =>
    cases hb : boxOf (zeroAV C t) with
    | none => rw [hb] at h; cases h
    | some p =>
      rw [hb] at h
      simp only [Option.map_some, Option.some.injEq] at h
      refine turn ?_
      have := allocOp_ok hI hb
      rw [h] at this
      exact this
  case box t y =>
    cases hb : boxOf (evalT C fr t y) with
    | none => rw [hb] at h; cases h
    | some p =>
      rw [hb] at h
      simp only [Option.bind_some] at h
      split at h
      · simp only [Option.some.injEq] at h
        refine turn ?_
        have := boxOp_ok (t := t) hI (eT t y) hb
        rw [h] at this
        exact this
      · cases h
  case build t parts =>
    refine same (fun y hy => ?_) h
    refine buildV_ok (parts := evalParts C fr 0 parts.toList) ?_ hy
    rw [Array.toList_map]
    exact evalParts_rel hI hf 0 _
  case buildSlice t n parts =>
    refine turn (buildSliceV_ok hI ?_ h)
    rw [Array.toList_map]
    exact evalParts_rel hI hf _ _
  case load t y => exact same (fun z hz => loadV_ok hI (eO y) hz) h
  case store t y z =>
    refine skip (fun H1 h1 => ?_) h
    obtain ⟨w', h2, h3, h4⟩ := storeV_ok hI (eO y) (eT t z) h1
    exact ⟨w', _, h2, h3, h4⟩
  case nilCheck y =>
    have hy := eO y
    split at h
    · rename_i o' i f g hd
      rw [hd] at hy
      split at h
      · rename_i ob hob
        simp only [Option.some.injEq, Prod.mk.injEq] at h
        obtain ⟨rfl, rfl⟩ := h
        have hy2 := hy
        simp only [VRel, V1Rel, SRel] at hy2
        obtain ⟨ho, hg⟩ := live_iff.1 hob
        have := ((hy2.2.2 ob ho).2 hg).2
        rw [this] at hy ⊢
        exact Res.same hI rfl hy
      · cases h
    · rename_i p i f t hd
      rw [hd] at hy
      simp only [Option.some.injEq, Prod.mk.injEq] at h
      obtain ⟨rfl, rfl⟩ := h
      have hy2 := hy
      simp only [VRel, V1Rel] at hy2
      obtain ⟨b, off, h1, _⟩ := hy2
      rw [h1] at hy ⊢
      exact Res.same hI rfl hy
    · cases h
  case binOp op t y z _ =>
    refine same (fun r hr => ?_) h
    obtain ⟨v, h1, h2⟩ := binV_ok hI (eT t y) (eT t z) hr
    exact ⟨v, h1, plain_v h2⟩
  case unOp op t y =>
    refine same (fun r hr => ?_) h
    obtain ⟨v, h1, h2⟩ := unV_ok (P := C.P) (eO y) hr
    exact ⟨v, h1, plain_v h2⟩
  case convert s d y =>
    refine turn ?_
    obtain ⟨u, w', h1, h2, h3, h4, h5⟩ := convV_ok hI (eT s y) h
    subst h2
    exact ⟨u, w', _, h1, h3, h4, h5⟩
  case makeFunc fn first caps =>
    cases fn <;> simp only at h
    case func f =>
      split at h
      · rename_i hc
        simp only [Option.some.injEq, Prod.mk.injEq] at h
        obtain ⟨rfl, rfl⟩ := h
        have hfst : first = #[] := Array.eq_empty_of_size_eq_zero hc.1
        subst hfst
        refine Res.same hI (v := .func (.func f) #[] (caps.map a.eval)) (by simp [Instr.makeFunc]) ?_
        simp only [VRel, V1Rel]
        refine ⟨_, rfl, by simp, fun j b hb => ?_⟩
        have hs := scalars_mem hc.2 b (List.mem_of_getElem? hb)
        rw [List.getElem?_map] at hb
        cases hj : caps.toList[j]? with
        | none => rw [hj] at hb; cases hb
        | some y =>
          rw [hj] at hb
          simp only [Option.map_some, Option.some.injEq] at hb
          subst hb
          rw [Array.getElem?_toList] at hj
          exact ⟨a.eval y, by simp [hj], SRel.of_v hs (eO y)⟩
      · cases h
    all_goals cases h
  case makeSlice t l c => exact turn (makeSliceV_ok hI (eO l) (eO c) h)
  case slice t y lo hi mx =>
    split at h
    · rename_i hm
      have : mx = none := by simpa using hm
      subst this
      exact same (fun z hz => sliceV_ok hI (eT t y) (OptRel.map hI hf lo) (OptRel.map hI hf hi) hz) h
    · cases h
  case fieldAddr s y n => exact same (fun z hz => fieldAddrV_ok (eO y) hz) h
  case field t y n => exact same (fun z hz => fieldV_ok (eT t y) hz) h
  case indexAddr t y ix => exact same (fun z hz => indexAddrV_ok hI (eO y) (eO ix) hz) h
  case index t y ix => exact same (fun z hz => indexV_ok (eT t y) (eO ix) hz) h
  case extract t i =>
    have ht := eO t
    split at h
    · rename_i l hl
      rw [hl] at ht
      refine same (fun z hz => ?_) h
      simp only [VRel] at ht
      obtain ⟨vs, h1, h2, h3⟩ := ht
      obtain ⟨u, h4, h5⟩ := h3 i z hz
      exact ⟨u, by rw [h1]; simp [Instr.extract, h4], h5.v⟩
    · cases h
  case call c =>
    unfold callV at h
    split at h
    · rename_i b hb
      have hr : (do let d ← resolve a.eval c o.type; invoke d.target d.args : Sem Next) = builtin b c.argTypes o.type (c.args.map fun | .const _ => true | _ => false) (c.args.map a.eval) := by
        simp [resolve, hb, invoke]
        rfl
      rw [hr]
      exact builtinV_ok hI (by rw [Array.toList_map]; exact evalArgs_rel hI hf _ _) h _ _
    · rename_i y hy
      simp only [isFn, hop, hy] at hno
      cases hno
    · cases h
  all_goals cases h

end Go.AM

/- Names and tags turned. -/
namespace Go.AM

theorem renL_map (ρ : Nat → Nat → Option (Nat × Nat)) (τ : Nat → Nat) : ∀ l, renL ρ τ l = l.map (ren ρ τ)
  | [] => rfl
  | a :: r => by simp [renL, renL_map ρ τ r]

theorem renL_len (ρ : Nat → Nat → Option (Nat × Nat)) (τ : Nat → Nat) (l : List AV) : (renL ρ τ l).length = l.length := by simp [renL_map]

theorem plen_ren (ρ : Nat → Nat → Option (Nat × Nat)) (τ : Nat → Nat) (p : AV) : plen (ren ρ τ p) = plen p := by
  cases p
  case ptr o i f g => simp only [ren]; rcases ρ o g with _ | ⟨a, b⟩ <;> rfl
  case sl o i f g => simp only [ren]; rcases ρ o g with _ | ⟨a, b⟩ <;> rfl
  case map o g => simp only [ren]; rcases ρ o g with _ | ⟨a, b⟩ <;> rfl
  all_goals simp only [ren, plen, renL_len]

theorem pesz_ren (ρ : Nat → Nat → Option (Nat × Nat)) (τ : Nat → Nat) (p : AV) : pesz (ren ρ τ p) = pesz p := by
  cases p
  case ptr o i f g => simp only [ren]; rcases ρ o g with _ | ⟨a, b⟩ <;> rfl
  case sl o i f g => simp only [ren]; rcases ρ o g with _ | ⟨a, b⟩ <;> rfl
  case map o g => simp only [ren]; rcases ρ o g with _ | ⟨a, b⟩ <;> rfl
  all_goals simp only [ren, pesz]

theorem isPm_ren (ρ : Nat → Nat → Option (Nat × Nat)) (τ : Nat → Nat) (p : AV) : isPm (ren ρ τ p) = isPm p := by
  cases p
  case ptr o i f g => simp only [ren]; rcases ρ o g with _ | ⟨a, b⟩ <;> rfl
  case sl o i f g => simp only [ren]; rcases ρ o g with _ | ⟨a, b⟩ <;> rfl
  case map o g => simp only [ren]; rcases ρ o g with _ | ⟨a, b⟩ <;> rfl
  all_goals simp only [ren, isPm]

/-- what turning names asks: the world is the same -/
structure Ren (ρ : Nat → Nat → Option (Nat × Nat)) (τ : Nat → Nat) (K K' : Kx) (T T' : Nat → Nat → Prop) (ok : Nat → Prop) : Prop where
  w : K'.w = K.w
  h : ∀ o g o' g', ρ o g = some (o', g') → o' < K'.H.length ∧ ∃ ob, live K.H o g = some ob ∧ ∀ ob', K'.H[o']? = some (some ob') → g' ≤ ob'.g ∧ (ob'.g = g' → K'.μ o' = K.μ o ∧ Same ob ob')
  t : ∀ t, ok t → ∀ b, NT K T t b → NT K' T' (τ t) b

section
variable {ρ : Nat → Nat → Option (Nat × Nat)} {τ : Nat → Nat} {K K' : Kx} {T T' : Nat → Nat → Prop} {ok : Nat → Prop}

mutual
/-- a payload without names: only the tags in it turn -/
theorem RV_ren {w : World} {N : Nat → Prop} (ρ : Nat → Nat → Option (Nat × Nat)) (τ : Nat → Nat) : (a : AV) → (v : Value) → RV w N a v → RV w N (ren ρ τ a) v
  | .top, _, _ => trivial
  | .bool _, v, hv => by simpa [ren, RV] using hv
  | .int _ _, v, hv => by simpa [ren, RV] using hv
  | .str _, v, hv => by simpa [ren, RV] using hv
  | .nilptr, v, hv => by simpa [ren, RV] using hv
  | .nilfn, v, hv => by simpa [ren, RV] using hv
  | .nilmap, v, hv => by simpa [ren, RV] using hv
  | .ro c p t, v, hv => by simpa [ren, RV] using hv
  | .ptr .., v, hv => by simp [RV] at hv
  | .rptr .., v, hv => by simp [RV] at hv
  | .sl .., v, hv => by simp [RV] at hv
  | .agg .., v, hv => by simp [RV] at hv
  | .tup .., v, hv => by simp [RV] at hv
  | .fn .., v, hv => by simp [RV] at hv
  | .map .., v, hv => by simp [RV] at hv
  | .pn, v, hv => by simp [RV] at hv
  | .pb .., v, hv => by simp [RV] at hv
  | .pi .., v, hv => by simp [RV] at hv
  | .pc .., v, hv => by simp [RV] at hv
  | .pr .., v, hv => by simp [RV] at hv
  | .pm .., v, hv => by simp [RV] at hv
end

theorem GP_ren {S S' : AV → Value → Prop} {p : AV} {r : Nat → Option Value} (h : ∀ a v, (∀ t ∈ tags a, t ∈ tags p) → S a v → S' (ren ρ τ a) v) (hp : GP S p r) : GP S' (ren ρ τ p) r := by
  cases p <;> simp only [GP, ren] at hp ⊢ <;> try exact hp
  case pc l =>
    intro j a ha
    rw [renL_map, List.getElem?_map] at ha
    cases hb : l[j]? with
    | none => rw [hb] at ha; cases ha
    | some b =>
      rw [hb] at ha
      simp only [Option.map_some, Option.some.injEq] at ha
      subst ha
      obtain ⟨v, h1, h2, h3⟩ := hp j b hb
      exact ⟨v, h1, h2, h b v (fun t ht => by simp only [tags]; exact tagsL_mem (List.mem_of_getElem? hb) t ht) h3⟩
  case pr e l =>
    refine ⟨hp.1, fun j a ha => ?_⟩
    rw [renL_map, List.getElem?_map] at ha
    cases hb : l[j]? with
    | none => rw [hb] at ha; cases ha
    | some b =>
      rw [hb] at ha
      simp only [Option.map_some, Option.some.injEq] at ha
      subst ha
      obtain ⟨cs, rfl, h1, h2⟩ := hp.2 j b hb
      refine ⟨renL ρ τ cs, by simp [ren], by rw [renL_len, h1], fun k a ha => ?_⟩
      rw [renL_map, List.getElem?_map] at ha
      cases hc : cs[k]? with
      | none => rw [hc] at ha; cases ha
      | some c =>
        rw [hc] at ha
        simp only [Option.map_some, Option.some.injEq] at ha
        subst ha
        obtain ⟨v, h3, h4, h5⟩ := h2 k c hc
        exact ⟨v, h3, h4, h c v (fun t ht => by
          simp only [tags]
          exact tagsL_mem (List.mem_of_getElem? hb) t (by simp only [tags]; exact tagsL_mem (List.mem_of_getElem? hc) t ht)) h5⟩

theorem SRel.ren (R : Ren ρ τ K K' T T' ok) {a : AV} {v : Value} (ht : ∀ t ∈ tags a, ok t) (h : SRel K T a v) : SRel K' T' (ren ρ τ a) v := by
  cases a
  case ptr o i f g =>
    simp only [SRel] at h
    rcases hρ : ρ o g with _ | ⟨o', g'⟩
    · simp only [Go.AM.ren, hρ, SRel, RV]
    · simp only [Go.AM.ren, hρ]
      obtain ⟨h1, ob, h2, h3⟩ := R.h o g o' g' hρ
      obtain ⟨ho, hg⟩ := live_iff.1 h2
      simp only [SRel]
      refine ⟨h1, h.2.1, fun ob' hob' => ⟨(h3 ob' hob').1, fun e => ?_⟩⟩
      obtain ⟨h4, h5⟩ := (h3 ob' hob').2 e
      obtain ⟨h6, h7⟩ := (h.2.2 ob ho).2 hg
      rw [h4, h5.1, h5.2.2.2]
      exact ⟨h6, h7⟩
  case sl o off len g =>
    simp only [SRel] at h
    rcases hρ : ρ o g with _ | ⟨o', g'⟩
    · simp only [Go.AM.ren, hρ, SRel, RV]
    · simp only [Go.AM.ren, hρ]
      obtain ⟨h1, ob, h2, h3⟩ := R.h o g o' g' hρ
      obtain ⟨ho, hg⟩ := live_iff.1 h2
      simp only [SRel]
      refine ⟨h1, h.2.1, fun ob' hob' => ⟨(h3 ob' hob').1, fun e => ?_⟩⟩
      obtain ⟨h4, h5⟩ := (h3 ob' hob').2 e
      have := (h.2.2 ob ho).2 hg
      unfold SlOk at this ⊢
      rw [h4, h5.1, h5.2.1, h5.2.2.1, h5.2.2.2]
      exact this
  case map o g =>
    simp only [SRel] at h
    rcases hρ : ρ o g with _ | ⟨o', g'⟩
    · simp only [Go.AM.ren, hρ, SRel, RV]
    · simp only [Go.AM.ren, hρ]
      obtain ⟨h1, ob, h2, h3⟩ := R.h o g o' g' hρ
      obtain ⟨ho, hg⟩ := live_iff.1 h2
      simp only [SRel]
      refine ⟨h1, h.2.1, fun ob' hob' => ⟨(h3 ob' hob').1, fun e => ?_⟩⟩
      obtain ⟨h4, h5⟩ := (h3 ob' hob').2 e
      obtain ⟨h6, h7⟩ := (h.2.2 ob ho).2 hg
      rw [h4, h5.2.2.2]
      exact ⟨h6, h7⟩
  case ro c p t =>
    simp only [SRel, Go.AM.ren] at h ⊢
    rw [R.w]
    have := RV_mono (w := K.w) (w' := K.w) (fun b hb => ⟨R.t t (ht t (by simp [tags])) b hb, fun _ _ h => h⟩) _ _ h
    simpa [RV] using this
  all_goals
    simp only [SRel] at h
    have := RV_ren (w := K.w) ρ τ _ _ h
    simp only [Go.AM.ren] at this ⊢
    simp only [SRel]
    rw [R.w]
    exact this

theorem PRel.ren (R : Ren ρ τ K K' T T' ok) {p : AV} {r : Nat → Option Value} (ht : ∀ t ∈ tags p, ok t) (h : PRel K T p r) : PRel K' T' (ren ρ τ p) r :=
  GP_ren (fun _ _ hs h => SRel.ren R (fun t h' => ht t (hs t h')) h) h

theorem cellsLen_ren (ρ : Nat → Nat → Option (Nat × Nat)) (τ : Nat → Nat) (p : AV) : cellsLen (ren ρ τ p) = cellsLen p := by
  unfold cellsLen; rw [plen_ren, pesz_ren]

theorem V1Rel.s {K : Kx} {T : Nat → Nat → Prop} {a : AV} {v : Value} (h : SRel K T a v) : V1Rel K T a v := by
  cases a <;> simp only [V1Rel] <;> first | exact h | (simp [SRel, RV] at h; done)

theorem V1Rel.ren (R : Ren ρ τ K K' T T' ok) {a : AV} {v : Value} (ht : ∀ t ∈ tags a, ok t) (h : V1Rel K T a v) : V1Rel K' T' (ren ρ τ a) v := by
  cases a
  case agg p =>
    simp only [V1Rel, Go.AM.ren] at h ⊢
    obtain ⟨cs, h1, h2, h3⟩ := h
    exact ⟨cs, h1, by rw [cellsLen_ren]; exact h2, PRel.ren R ht h3⟩
  case fn f l =>
    simp only [V1Rel, Go.AM.ren] at h ⊢
    obtain ⟨vs, h1, h2, h3⟩ := h
    refine ⟨vs, h1, by rw [renL_len]; exact h2, fun j a ha => ?_⟩
    rw [renL_map, List.getElem?_map] at ha
    cases hb : l[j]? with
    | none => rw [hb] at ha; cases ha
    | some b =>
      rw [hb] at ha
      simp only [Option.map_some, Option.some.injEq] at ha
      subst ha
      obtain ⟨u, h4, h5⟩ := h3 j b hb
      exact ⟨u, h4, SRel.ren R (fun t h' => ht t (by simp only [tags]; exact tagsL_mem (List.mem_of_getElem? hb) t h')) h5⟩
  case rptr p i f t =>
    simp only [V1Rel, Go.AM.ren] at h ⊢
    obtain ⟨b, off, h1, h2, h3, h4⟩ := h
    have hn := fun b hb => R.t t (ht t (by simp [tags])) b hb
    exact ⟨b, off, h1, h2, hn b h3, by rw [R.w]; exact RP_mono (fun b hb => ⟨hn b hb, fun _ _ h => h⟩) p _ _ (fun _ _ h => h) h4⟩
  all_goals exact V1Rel.s (SRel.ren R ht h)

theorem VRel.ren (R : Ren ρ τ K K' T T' ok) {a : AV} {v : Value} (ht : ∀ t ∈ tags a, ok t) (h : VRel K T a v) : VRel K' T' (ren ρ τ a) v := by
  by_cases hn : noTup a = true
  · have h1 : V1Rel K T a v := by cases a <;> first | exact h | (simp [noTup] at hn; done)
    exact (V1Rel.ren R ht h1).v
  · cases a <;> simp [noTup] at hn
    case tup l =>
      simp only [VRel, Go.AM.ren] at h ⊢
      obtain ⟨vs, h1, h2, h3⟩ := h
      refine ⟨vs, h1, by rw [renL_len]; exact h2, fun j a ha => ?_⟩
      rw [renL_map, List.getElem?_map] at ha
      cases hb : l[j]? with
      | none => rw [hb] at ha; cases ha
      | some b =>
        rw [hb] at ha
        simp only [Option.map_some, Option.some.injEq] at ha
        subst ha
        obtain ⟨u, h4, h5⟩ := h3 j b hb
        exact ⟨u, h4, V1Rel.ren R (fun t h' => ht t (by simp only [tags]; exact tagsL_mem (List.mem_of_getElem? hb) t h')) h5⟩

theorem same_ren (ρ : Nat → Nat → Option (Nat × Nat)) (τ : Nat → Nat) (g : Nat) (ob : Obj) : Same ob (renObj ρ τ g ob) :=
  ⟨pesz_ren ρ τ ob.p, plen_ren ρ τ ob.p, rfl, isPm_ren ρ τ ob.p⟩

theorem PayOk.ren (R : Ren ρ τ K K' T T' ok) {ob : Obj} {r : Nat → Option Value} {g : Nat} (ht : ∀ t ∈ tagsOb ob, ok t) (h : PayOk K T ob r) : PayOk K' T' (renObj ρ τ g ob) r := by
  have e : (renObj ρ τ g ob).ids = ob.ids := rfl
  have e2 : (renObj ρ τ g ob).p = Go.AM.ren ρ τ ob.p := rfl
  have e3 : (renObj ρ τ g ob).tg = τ ob.tg := rfl
  unfold PayOk at h ⊢
  unfold tagsOb at ht
  by_cases hi : ob.ids = true
  · rw [if_pos hi] at h ht
    rw [e, if_pos hi, e2]
    exact PRel.ren R ht h
  · rw [if_neg hi] at h ht
    rw [e, if_neg hi, e2, e3]
    have hn := fun b hb => R.t ob.tg (ht _ (by simp)) b hb
    rw [R.w]
    refine RP_GP.2 (GP_ren (fun a v _ hv => ?_) (RP_GP.1 h))
    exact RV_ren ρ τ a v (RV_mono (fun b hb => ⟨hn b hb, fun _ _ h => h⟩) a v hv)

theorem KRel.ren {k : AV} {v : Value} (h : KRel k v) : KRel (Go.AM.ren ρ τ k) v := by
  unfold KRel at h
  split at h <;> simp_all [Go.AM.ren, KRel]

theorem ObjOk.ren (R : Ren ρ τ K K' T T' ok) {k o : Nat} {ob : Obj} {g : Nat} (ht : ∀ t ∈ tagsOb ob, ok t) (hμ : K'.μ o = K.μ k) (h : ObjOk K T k ob) : ObjOk K' T' o (renObj ρ τ g ob) := by
  by_cases hpm : isPm ob.p = true
  · cases hp : ob.p <;> rw [hp] at hpm <;> simp only [isPm, Bool.false_eq_true] at hpm
    case pm l =>
      have hl : ∀ t ∈ tagsL l, ok t := by
        intro t h'
        refine ht t ?_
        unfold tagsOb
        rw [hp]
        split
        · simpa [tags] using h'
        · simp [h']
      unfold ObjOk at h ⊢
      simp only [renObj, hp, Go.AM.ren] at h ⊢
      rw [hμ, R.w]
      obtain ⟨es, clock, h1, h2, h3, h4⟩ := h
      refine ⟨es, clock, h1, by rw [renL_len]; exact h2, by rw [renL_len]; exact h3, fun i a ha => ?_⟩
      rw [renL_map, List.getElem?_map] at ha
      cases hb : l[i]? with
      | none => rw [hb] at ha; cases ha
      | some b =>
        rw [hb] at ha
        simp only [Option.map_some, Option.some.injEq] at ha
        subst ha
        obtain ⟨k, v, e, rfl, h6, h7, h8, h9⟩ := h4 i b hb
        refine ⟨Go.AM.ren ρ τ k, Go.AM.ren ρ τ v, e, by simp [Go.AM.ren, renL], h6, h7, KRel.ren h8, V1Rel.ren R (fun t h' => hl t (tagsL_mem (List.mem_of_getElem? hb) t ?_)) h9⟩
        simp [tags, tagsL, h']
  · have hpm' : isPm ob.p = false := by simpa using hpm
    have hpm2 : isPm (renObj ρ τ g ob).p = false := by simp only [renObj]; rw [isPm_ren]; exact hpm'
    obtain ⟨h1, h2⟩ := h.open hpm'
    have hS := same_ren ρ τ g ob
    have : ShapeOk (K'.μ o) (renObj ρ τ g ob) ∧ CellsOk K' T' (K'.μ o) (renObj ρ τ g ob) := by
      rw [hμ]
      refine ⟨?_, fun hc => ?_⟩
      · unfold ShapeOk at h1 ⊢
        rw [hS.2.1, hS.2.2.1]
        exact h1
      · obtain ⟨cur, E, h3, h4, h5, h6⟩ := h2 hc
        exact ⟨cur, E, by rw [R.w]; exact h3, by rw [hS.1]; exact h4, by rw [hS.1]; exact h5, PayOk.ren R ht h6⟩
    unfold ObjOk
    split
    · rename_i heq; rw [heq] at hpm2; simp [isPm] at hpm2
    · exact this

end

theorem reach_ok (H : Heap) : ∀ (n : Nat) (l acc : List Nat), acc.Nodup → (∀ o ∈ acc, ∃ ob, H[o]? = some (some ob)) → (reach H n l acc).Nodup ∧ ∀ o ∈ reach H n l acc, ∃ ob, H[o]? = some (some ob)
  | 0, _, acc, h1, h2 => by simpa [reach] using ⟨h1, h2⟩
  | n + 1, [], acc, h1, h2 => by simpa [reach] using ⟨h1, h2⟩
  | n + 1, o :: r, acc, h1, h2 => by
    unfold reach
    split
    · exact reach_ok H n r acc h1 h2
    · rename_i hc
      split
      · rename_i ob hob
        refine reach_ok H n _ _ ?_ ?_
        · rw [List.nodup_append]
          refine ⟨h1, by simp, fun a ha b hb => ?_⟩
          simp only [List.mem_singleton] at hb
          subst hb
          rintro rfl
          exact hc (by simpa using ha)
        · intro x hx
          rcases List.mem_append.1 hx with hx | hx
          · exact h2 x hx
          · simp only [List.mem_singleton] at hx
            subst hx
            exact ⟨ob, hob⟩
      · exact reach_ok H n r acc h1 h2

end Go.AM

/- A call: into the callee. -/
namespace Go.AM

def BlkOf (K : Kx) (o b : Nat) : Prop := ∃ ob, K.H[o]? = some (some ob) ∧ Real ob (K.μ o) ∧ (K.μ o).blk = b

theorem BlkOf.own {K : Kx} {o b : Nat} (h : BlkOf K o b) : Own K b := let ⟨ob, h1, h2, h3⟩ := h; ⟨o, ob, h1, h2, h3⟩

theorem BlkOf.inj {C : Ctx} {K : Kx} {T : Nat → Nat → Prop} (hI : Inv C K T) {o o' b : Nat} (h : BlkOf K o b) (h' : BlkOf K o' b) : o = o' := by
  obtain ⟨ob, h1, h2, h3⟩ := h
  obtain ⟨ob', h4, h5, h6⟩ := h'
  exact hI.inj o o' ob ob' h1 h4 h2 h5 (h3.trans h6.symm)

/-- the tags of the callee -/
def Tc (K : Kx) (T : Nat → Nat → Prop) (π : List Nat) (ls : List Lent) (t b : Nat) : Prop :=
  K.w.heap.size ≤ b ∨ (∃ o ∈ π, BlkOf K o b) ∨ (t = gtag ∧ NT K T gtag b) ∨
  ∃ i x, t = i + 1 ∧ ls[i]? = some x ∧ ((∃ o ∈ x.objs, BlkOf K o b) ∨ ∃ t' ∈ x.tags, NT K T t' b)

/-- the state that the callee meets -/
def intoK (K : Kx) (π : List Nat) (t : Nat) : Kx := ⟨fun k => K.μ (π.getD k 0), π.map (fun o => (obAt K.H o).map (renObj (intoN K.H π) (fun _ => t) 0)), K.w⟩

theorem idxOf_some : ∀ {l : List Nat} {o i k : Nat}, idxOf l o i = some k → i ≤ k ∧ l[k - i]? = some o
  | [], o, i, k, h => by simp [idxOf] at h
  | a :: r, o, i, k, h => by
    unfold idxOf at h
    split at h
    · rename_i ha
      simp only [Option.some.injEq] at h
      subst h; subst ha
      simp
    · obtain ⟨h1, h2⟩ := idxOf_some h
      refine ⟨by omega, ?_⟩
      rw [show k - i = (k - (i + 1)) + 1 by omega]
      simpa using h2

theorem obAt_some {H : Heap} {o : Nat} {ob : Obj} : obAt H o = some ob ↔ H[o]? = some (some ob) := by
  unfold obAt
  cases h : H[o]? with
  | none => simp
  | some x => simp

theorem tagsObjs_mem {ob : Obj} : ∀ {l : List (Option Obj)}, some ob ∈ l → ∀ t ∈ tagsOb ob, t ∈ tagsObjs l
  | [], h, _, _ => by simp at h
  | none :: r, h, t, ht => by
    have : some ob ∈ r := by simpa using h
    simpa [tagsObjs] using tagsObjs_mem this t ht
  | some a :: r, h, t, ht => by
    simp only [List.mem_cons, Option.some.injEq] at h
    rcases h with rfl | h
    · simp [tagsObjs, ht]
    · simp [tagsObjs, tagsObjs_mem h t ht]

section
variable {C : Ctx} {K : Kx} {T : Nat → Nat → Prop} {π : List Nat} {ls : List Lent} {n : Nat}

theorem intoK_get {k : Nat} {ob' : Obj} (h : (intoK K π n).H[k]? = some (some ob')) :
    ∃ o ob, π[k]? = some o ∧ K.H[o]? = some (some ob) ∧ ob' = renObj (intoN K.H π) (fun _ => n) 0 ob ∧ (intoK K π n).μ k = K.μ o := by
  simp only [intoK, List.getElem?_map] at h
  cases ho : π[k]? with
  | none => rw [ho] at h; cases h
  | some o =>
    rw [ho] at h
    simp only [Option.map_some, Option.some.injEq] at h
    cases hob : obAt K.H o with
    | none => rw [hob] at h; cases h
    | some ob =>
      rw [hob] at h
      simp only [Option.map_some, Option.some.injEq] at h
      exact ⟨o, ob, rfl, obAt_some.1 hob, h.symm, by simp [intoK, ho]⟩

theorem Real.same {ob ob' : Obj} {m : Pl} (hs : Same ob ob') : Real ob' m ↔ Real ob m := by
  unfold Real
  rw [hs.2.2.2]

theorem intoK_own {b : Nat} : Own (intoK K π n) b → ∃ o ∈ π, BlkOf K o b := by
  rintro ⟨k, ob', h1, h2, h3⟩
  obtain ⟨o, ob, g1, g2, g3, g4⟩ := intoK_get h1
  subst g3
  rw [g4] at h2 h3
  exact ⟨o, List.mem_of_getElem? g1, ob, g2, (Real.same (same_ren _ _ _ ob)).1 h2, h3⟩

theorem intoK_nt (hI : Inv C K T) {t' t b : Nat} (h : NT K T t' b) (ht : Tc K T π ls t b) : NT (intoK K π n) (Tc K T π ls) t b :=
  ⟨ht, fun ho => let ⟨_, _, h1⟩ := intoK_own ho; h.2.1 h1.own, h.2.2⟩

theorem intoK_ren (hI : Inv C K T) (τ : Nat → Nat) (ok : Nat → Prop) (hok : ∀ t, ok t → ∀ b, NT K T t b → Tc K T π ls (τ t) b) : Ren (intoN K.H π) τ K (intoK K π n) T (Tc K T π ls) ok where
  w := rfl
  h := by
    intro o g o' g' h
    unfold intoN at h
    split at h
    · rename_i ob hob
      cases hi : idxOf π o 0 with
      | none => rw [hi] at h; cases h
      | some k =>
        rw [hi] at h
        simp only [Option.map_some, Option.some.injEq, Prod.mk.injEq] at h
        obtain ⟨rfl, rfl⟩ := h
        obtain ⟨_, h1⟩ := idxOf_some hi
        rw [Nat.sub_zero] at h1
        refine ⟨by have := (List.getElem?_eq_some_iff.1 h1).1; simpa [intoK] using this, ob, hob, fun ob' hob' => ⟨Nat.zero_le _, fun _ => ?_⟩⟩
        obtain ⟨o2, ob2, g1, g2, g3, g4⟩ := intoK_get hob'
        rw [h1] at g1
        simp only [Option.some.injEq] at g1
        subst g1
        rw [(live_iff.1 hob).1] at g2
        simp only [Option.some.injEq] at g2
        subst g2; subst g3
        exact ⟨g4, same_ren _ _ _ ob⟩
    · cases h
  t := fun t ht b hb => intoK_nt hI hb (hok t ht b hb)

theorem intoK_inv (hI : Inv C K T) (hnd : π.Nodup) (hn : n + 1 < gtag) (hother : ls[n]? = some ⟨[], tagsObjs (π.map (obAt K.H))⟩) : Inv C (intoK K π (n + 1)) (Tc K T π ls) where
  obj := by
    intro k ob' h
    obtain ⟨o, ob, g1, g2, g3, g4⟩ := intoK_get h
    subst g3
    have hmem : ∀ t ∈ tagsOb ob, t ∈ tagsObjs (π.map (obAt K.H)) := by
      intro t ht
      exact tagsObjs_mem (List.mem_map.2 ⟨o, List.mem_of_getElem? g1, obAt_some.2 g2⟩) t ht
    exact ObjOk.ren (intoK_ren (n := n + 1) hI (fun _ => n + 1) (fun t => t ∈ tagsObjs (π.map (obAt K.H))) (fun t ht b hb => .inr (.inr (.inr ⟨n, _, rfl, hother, .inr ⟨t, ht, hb⟩⟩)))) hmem g4 (hI.obj o ob g2)
  inj := by
    intro k k' ob ob' h h' hr hr' hb
    obtain ⟨o, ob1, g1, g2, g3, g4⟩ := intoK_get h
    obtain ⟨o', ob1', g1', g2', g3', g4'⟩ := intoK_get h'
    subst g3; subst g3'
    rw [g4] at hr hb
    rw [g4'] at hr' hb
    have := hI.inj o o' ob1 ob1' g2 g2' ((Real.same (same_ren _ _ _ _)).1 hr) ((Real.same (same_ren _ _ _ _)).1 hr') hb
    subst this
    have e1 := List.getElem?_eq_some_iff.1 g1
    have e2 := List.getElem?_eq_some_iff.1 g1'
    exact (List.getElem_inj hnd).1 (e1.2.trans e2.2.symm)
  own := by
    intro b hb
    obtain ⟨o, ho, h⟩ := intoK_own hb
    exact ⟨(hI.own b h.own).1, .inr (.inl ⟨o, ho, h⟩)⟩
  new := fun b hb => .inl hb
  mono := by
    rintro t b (h | h | ⟨h, _⟩ | ⟨i, x, h, _⟩)
    · exact .inl h
    · exact .inr (.inl h)
    · simp [gtag] at h
    · omega
  glob := by
    intro g p hg
    obtain ⟨h1, h2, h3⟩ := hI.glob g p hg
    have hnt : ∀ b, NT K T gtag b → NT (intoK K π (n + 1)) (Tc K T π ls) gtag b := fun b hb => intoK_nt hI hb (.inr (.inr (.inl ⟨rfl, hb⟩)))
    exact ⟨h1, hnt _ h2, RP_mono (fun b hb => ⟨hnt b hb, fun _ _ h => h⟩) p _ _ (fun _ _ h => h) h3⟩

end

end Go.AM

/- A call: the arguments lent. -/
namespace Go.AM

/-- what is lent is among the i-th's -/
def Cv (ls : List Lent) (i : Nat) (y : Lent) : Prop := ∃ x, ls[i]? = some x ∧ (∀ o ∈ y.objs, o ∈ x.objs) ∧ ∀ t ∈ y.tags, t ∈ x.tags

def Off (π : List Nat) (y : Lent) : Prop := ∀ o ∈ y.objs, o ∉ π

section
variable {C : Ctx} {K : Kx} {T : Nat → Nat → Prop} {π : List Nat} {ls : List Lent} {n i : Nat}

theorem lent_tag (hI : Inv C K T) {y : Lent} (hc : Cv ls i y) {t' b : Nat} (ht : t' ∈ y.tags) (h : NT K T t' b) : NT (intoK K π n) (Tc K T π ls) (i + 1) b := by
  obtain ⟨x, h1, _, h3⟩ := hc
  exact intoK_nt hI h (.inr (.inr (.inr ⟨i, x, rfl, h1, .inr ⟨t', h3 _ ht, h⟩⟩)))

theorem lent_obj (hI : Inv C K T) {y : Lent} (hc : Cv ls i y) (hd : Off π y) {o b : Nat} (ho : o ∈ y.objs) (h : BlkOf K o b) : NT (intoK K π n) (Tc K T π ls) (i + 1) b := by
  obtain ⟨x, h1, h2, _⟩ := hc
  refine ⟨.inr (.inr (.inr ⟨i, x, rfl, h1, .inl ⟨o, h2 _ ho, h⟩⟩)), fun hO => ?_, (hI.own _ h.own).1⟩
  obtain ⟨o', h3, h4⟩ := intoK_own hO
  exact hd o ho (by rw [BlkOf.inj hI h h4]; exact h3)

/-- without tags: only named anew -/
theorem into_v (hI : Inv C K T) {a : AV} {v : Value} (h : VRel K T a v) (ht : tags a = []) : VRel (intoK K π n) (Tc K T π ls) (ren (intoN K.H π) (fun t => t) a) v :=
  VRel.ren (intoK_ren (n := n) hI (fun t => t) (fun _ => False) (fun _ h => h.elim)) (by simp [ht]) h

theorem into_s (hI : Inv C K T) {a : AV} {v : Value} (h : SRel K T a v) (ht : tags a = []) : SRel (intoK K π n) (Tc K T π ls) (ren (intoN K.H π) (fun t => t) a) v :=
  SRel.ren (intoK_ren (n := n) hI (fun t => t) (fun _ => False) (fun _ h => h.elim)) (by simp [ht]) h

theorem lend1_sl {H : Heap} {t o off len g : Nat} {a' : AV} {y : Lent} (h : lend1 H t (.sl o off len g) = some (a', y)) :
    ∃ ob p, live H o g = some ob ∧ ¬ ob.ids = true ∧ psub ob.p off len = some p ∧ a' = .ro (if ob.z = 0 ∧ plen ob.p = 0 then 0 else 2) p t ∧ y = ⟨[o], [ob.tg]⟩ := by
  simp only [lend1] at h
  split at h
  · rename_i ob hob
    split at h
    · cases h
    · rename_i hids
      cases hp : psub ob.p off len with
      | none => rw [hp] at h; cases h
      | some p =>
        rw [hp] at h
        simp only [Option.map_some, Option.some.injEq, Prod.mk.injEq] at h
        exact ⟨ob, p, hob, hids, hp, h.1.symm, h.2.symm⟩
  · cases h

theorem lend1_s (hI : Inv C K T) {a a' : AV} {v : Value} {y : Lent} (hv : SRel K T a v) (h : lend1 K.H (i + 1) a = some (a', y)) (hc : Cv ls i y) (hd : Off π y) :
    SRel (intoK K π n) (Tc K T π ls) (ren (intoN K.H π) (fun t => t) a') v := by
  unfold lend1 at h
  split at h
  · rename_i o off len g
    obtain ⟨ob, p, h1, h2, h3, rfl, rfl⟩ := lend1_sl (H := K.H) (t := i + 1) (by unfold lend1; exact h)
    obtain ⟨h4, h5⟩ := live_iff.1 h1
    simp only [SRel] at hv
    obtain ⟨ad, cap, rfl, h6, h7⟩ := SlOk.ro hI h1 h2 ((hv.2.2 ob h4).2 h5) h3
    simp only [ren, SRel, RV]
    refine ⟨ad, cap, rfl, h6, fun a ha hn => ?_⟩
    obtain ⟨h8, h9, h10, h11⟩ := h7 a ha hn
    exact ⟨h8, lent_obj hI hc hd (o := o) (by simp) ⟨ob, h4, h10, h9.symm⟩, RP_mono (w' := K.w) (fun b hb => ⟨lent_tag hI hc (by simp) hb, fun _ _ h => h⟩) _ _ _ (fun _ _ h => h) h11⟩
  · simp only [Option.some.injEq, Prod.mk.injEq] at h
    obtain ⟨rfl, rfl⟩ := h
    simp only [ren, SRel] at hv ⊢
    rename_i c p t'
    have := RV_mono (w' := K.w) (N' := NT (intoK K π n) (Tc K T π ls) (i + 1)) (fun b hb => ⟨lent_tag hI hc (t' := t') (by simp) hb, fun _ _ h => h⟩) _ _ hv
    rw [RV] at this ⊢
    exact this
  · simp only [SRel, RV] at hv
  · split at h
    · rename_i ht
      simp only [Option.some.injEq, Prod.mk.injEq] at h
      obtain ⟨rfl, rfl⟩ := h
      exact into_s hI hv (by simpa using ht)
    · cases h

theorem lend1_v1 (hI : Inv C K T) {a a' : AV} {v : Value} {y : Lent} (hv : V1Rel K T a v) (hn : noTup a = true) (h : lend1 K.H (i + 1) a = some (a', y)) (hc : Cv ls i y) (hd : Off π y) :
    VRel (intoK K π n) (Tc K T π ls) (ren (intoN K.H π) (fun t => t) a') v := by
  cases a
  case rptr p j f t' =>
    simp only [lend1, Option.some.injEq, Prod.mk.injEq] at h
    obtain ⟨rfl, rfl⟩ := h
    simp only [ren, VRel, V1Rel] at hv ⊢
    obtain ⟨b, off, h1, h2, h3, h4⟩ := hv
    have hm := fun b (hb : NT K T t' b) => lent_tag (π := π) (n := n) hI hc (t' := t') (by simp) hb
    exact ⟨b, off, h1, h2, hm b h3, RP_mono (w' := K.w) (fun b hb => ⟨hm b hb, fun _ _ h => h⟩) p _ _ (fun _ _ h => h) h4⟩
  case agg p =>
    simp only [lend1] at h
    split at h
    · rename_i ht
      simp only [Option.some.injEq, Prod.mk.injEq] at h
      obtain ⟨rfl, rfl⟩ := h
      exact into_v hI (V1Rel.v hv) (by simpa using ht)
    · cases h
  case fn f l =>
    simp only [lend1] at h
    split at h
    · rename_i ht
      simp only [Option.some.injEq, Prod.mk.injEq] at h
      obtain ⟨rfl, rfl⟩ := h
      exact into_v hI (V1Rel.v hv) (by simpa using ht)
    · cases h
  case tup l => simp [noTup] at hn
  all_goals
    have hs := lend1_s (n := n) hI (by simpa [V1Rel] using hv) h hc hd
    have h1 := V1Rel.s hs
    exact V1Rel.v h1

theorem lendL_get {H : Heap} {t : Nat} : ∀ {l l' : List AV} {y : Lent}, lendL H t l = some (l', y) → l'.length = l.length ∧
    ∀ (j : Nat) (a' : AV), l'[j]? = some a' → ∃ a x, l[j]? = some a ∧ lend1 H t a = some (a', x) ∧ (∀ o ∈ x.objs, o ∈ y.objs) ∧ ∀ t ∈ x.tags, t ∈ y.tags
  | [], l', y, h => by
    simp only [lendL, Option.some.injEq, Prod.mk.injEq] at h
    obtain ⟨rfl, rfl⟩ := h
    simp
  | a :: r, l', y, h => by
    simp only [lendL] at h
    split at h
    · rename_i a' x r' z h1 h2
      simp only [Option.some.injEq, Prod.mk.injEq] at h
      obtain ⟨rfl, rfl⟩ := h
      obtain ⟨h3, h4⟩ := lendL_get h2
      refine ⟨by simp [h3], fun j b hb => ?_⟩
      cases j with
      | zero =>
        simp only [List.getElem?_cons_zero, Option.some.injEq] at hb
        subst hb
        exact ⟨a, x, rfl, h1, fun o ho => List.mem_append.2 (.inl ho), fun o ho => List.mem_append.2 (.inl ho)⟩
      | succ j =>
        simp only [List.getElem?_cons_succ] at hb
        obtain ⟨c, z', h5, h6, h7, h8⟩ := h4 j b hb
        exact ⟨c, z', by simpa using h5, h6, fun o ho => List.mem_append.2 (.inr (h7 o ho)), fun o ho => List.mem_append.2 (.inr (h8 o ho))⟩
    · cases h

theorem Cv.sub {y x : Lent} (hc : Cv ls i y) (h1 : ∀ o ∈ x.objs, o ∈ y.objs) (h2 : ∀ t ∈ x.tags, t ∈ y.tags) : Cv ls i x :=
  let ⟨z, h3, h4, h5⟩ := hc; ⟨z, h3, fun o ho => h4 o (h1 o ho), fun t ht => h5 t (h2 t ht)⟩

theorem lendV_v (hI : Inv C K T) {a a' : AV} {v : Value} {y : Lent} (hv : VRel K T a v) (h : lendV K.H (i + 1) a = some (a', y)) (hc : Cv ls i y) (hd : Off π y) :
    VRel (intoK K π n) (Tc K T π ls) (ren (intoN K.H π) (fun t => t) a') v := by
  unfold lendV at h
  split at h
  · rename_i l
    cases hl : lendL K.H (i + 1) l with
    | none => rw [hl] at h; cases h
    | some z =>
      obtain ⟨l', z⟩ := z
      rw [hl] at h
      simp only [Option.map_some, Option.some.injEq, Prod.mk.injEq] at h
      obtain ⟨rfl, rfl⟩ := h
      obtain ⟨h1, h2⟩ := lendL_get hl
      simp only [VRel, V1Rel] at hv
      obtain ⟨cs, rfl, h3, h4⟩ := hv
      simp only [ren, VRel, V1Rel]
      refine ⟨cs, rfl, by simpa [cellsLen, plen, pesz, renL_len, h1] using h3, ?_⟩
      simp only [PRel, GP] at h4 ⊢
      intro j b hb
      rw [renL_map, List.getElem?_map] at hb
      cases hc' : l'[j]? with
      | none => rw [hc'] at hb; cases hb
      | some b' =>
        rw [hc'] at hb
        simp only [Option.map_some, Option.some.injEq] at hb
        subst hb
        obtain ⟨a, x, h5, h6, h7, h8⟩ := h2 j b' hc'
        obtain ⟨v, h9, h10, h11⟩ := h4 j a h5
        exact ⟨v, h9, h10, lend1_s hI h11 h6 (hc.sub h7 h8) (fun o ho => hd o (h7 o ho))⟩
  · rename_i f l
    cases hl : lendL K.H (i + 1) l with
    | none => rw [hl] at h; cases h
    | some z =>
      obtain ⟨l', z⟩ := z
      rw [hl] at h
      simp only [Option.map_some, Option.some.injEq, Prod.mk.injEq] at h
      obtain ⟨rfl, rfl⟩ := h
      obtain ⟨h1, h2⟩ := lendL_get hl
      simp only [VRel, V1Rel] at hv
      obtain ⟨vs, rfl, h3, h4⟩ := hv
      simp only [ren, VRel, V1Rel]
      refine ⟨vs, rfl, by simpa [renL_len, h1] using h3, fun j b hb => ?_⟩
      rw [renL_map, List.getElem?_map] at hb
      cases hc' : l'[j]? with
      | none => rw [hc'] at hb; cases hb
      | some b' =>
        rw [hc'] at hb
        simp only [Option.map_some, Option.some.injEq] at hb
        subst hb
        obtain ⟨a, x, h5, h6, h7, h8⟩ := h2 j b' hc'
        obtain ⟨v, h9, h11⟩ := h4 j a h5
        exact ⟨v, h9, lend1_s hI h11 h6 (hc.sub h7 h8) (fun o ho => hd o (h7 o ho))⟩
  · by_cases hn : noTup a = true
    · have h1 : V1Rel K T a v := by cases a <;> first | exact hv | (simp [noTup] at hn; done)
      exact lend1_v1 hI h1 hn h hc hd
    · cases a <;> simp [noTup] at hn
      case tup l =>
        simp only [lend1] at h
        split at h
        · rename_i ht
          simp only [Option.some.injEq, Prod.mk.injEq] at h
          obtain ⟨rfl, rfl⟩ := h
          exact into_v hI hv (by simpa using ht)
        · cases h

theorem lendArgs_ok (hI : Inv C K T) {f : Nat} : ∀ {args : List AV} {vs : List Value} {as : List AV} {xs : List Lent} {i : Nat}, ArgsRel K T args vs → lendArgs C f K.H i args = some (as, xs) →
    (∀ (j : Nat) (x : Lent), xs[j]? = some x → ls[i + j]? = some x) → (∀ x ∈ xs, Off π x) → ArgsRel (intoK K π n) (Tc K T π ls) (renL (intoN K.H π) (fun t => t) as) vs
  | [], vs, as, xs, i, ha, h, _, _ => by
    rw [ha.nil]
    simp only [lendArgs, Option.some.injEq, Prod.mk.injEq] at h
    obtain ⟨rfl, rfl⟩ := h
    trivial
  | a :: r, vs, as, xs, i, ha, h, hls, hd => by
    obtain ⟨v, s, rfl, hv, hr⟩ := ha.cons
    simp only [lendArgs] at h
    split at h
    · rename_i a' x r' y h1 h2
      simp only [Option.some.injEq, Prod.mk.injEq] at h
      obtain ⟨rfl, rfl⟩ := h
      have hd1 : Off π x := hd x (by simp)
      have ih := lendArgs_ok hI hr h2 (fun j z hz => by rw [show i + 1 + j = i + (j + 1) by omega]; exact hls (j + 1) z (by simpa using hz)) (fun z hz => hd z (by simp [hz]))
      refine ⟨?_, ih⟩
      split at h1
      · simp only [Option.some.injEq, Prod.mk.injEq] at h1
        obtain ⟨rfl, rfl⟩ := h1
        exact into_v hI hv rfl
      · exact lendV_v hI hv h1 ⟨x, hls 0 x rfl, fun _ h => h, fun _ h => h⟩ hd1
    · cases h

theorem coerce_ok {C : Ctx} {K : Kx} {T : Nat → Nat → Prop} : ∀ {l : List AV} {vs : List Value} {ts : List TypeId}, ArgsRel K T l vs → ArgsRel K T (coerce C l ts) vs
  | [], vs, ts, h => by simpa [coerce] using h
  | a :: r, vs, ts, h => by
    obtain ⟨v, s, rfl, hv, hr⟩ := h.cons
    refine ⟨?_, coerce_ok hr⟩
    split
    · split
      · rename_i c t _ _ _ e _
        simp only [VRel, V1Rel, SRel, RV] at hv ⊢
        obtain ⟨ad, cap, h1, h2, _⟩ := hv
        have : plen (emptyRow C e) = 0 := by unfold emptyRow; split <;> rfl
        rw [this]
        exact ⟨ad, cap, h1, h2, fun _ _ h => absurd rfl h⟩
      · exact hv
    · exact hv

end

end Go.AM

/- A call: back out of the callee. -/
namespace Go.AM

theorem putBack_len {ρ : Nat → Nat → Option (Nat × Nat)} {τ : Nat → Nat} {H : Heap} {π : List Nat} {H1 : Heap} : ∀ (l : List Nat) (k : Nat) (B : Heap), (putBack ρ τ H π H1 k l B).length = B.length
  | [], k, B => rfl
  | o :: r, k, B => by simp [putBack, putBack_len r, upd]

theorem putBack_get {ρ : Nat → Nat → Option (Nat × Nat)} {τ : Nat → Nat} {H : Heap} {π : List Nat} {H1 : Heap} : ∀ {l : List Nat} {k : Nat} {B : Heap} {o : Nat} {ob2 : Obj}, (putBack ρ τ H π H1 k l B)[o]? = some (some ob2) → l.Nodup →
    (o ∉ l ∧ B[o]? = some (some ob2)) ∨ ∃ j ob1, l[j]? = some o ∧ obAt H1 (k + j) = some ob1 ∧ ob2 = renObj ρ τ (genBack H π (k + j) ob1.g) ob1
  | [], k, B, o, ob2, h, _ => .inl ⟨by simp, h⟩
  | a :: r, k, B, o, ob2, h, hn => by
    simp only [putBack] at h
    obtain ⟨hn1, hn2⟩ := List.nodup_cons.1 hn
    rcases putBack_get h hn2 with ⟨h1, h2⟩ | ⟨j, ob1, h1, h2, h3⟩
    · unfold upd at h2
      by_cases e : a = o
      · subst e
        right
        rw [List.getElem?_set] at h2
        simp only [if_true] at h2
        split at h2
        · simp only [Option.some.injEq, Option.map_eq_some_iff] at h2
          obtain ⟨ob1, h3, h4⟩ := h2
          exact ⟨0, ob1, rfl, by simpa using h3, by simpa using h4.symm⟩
        · cases h2
      · left
        rw [List.getElem?_set_ne e] at h2
        exact ⟨by simp [h1, Ne.symm e], h2⟩
    · right
      refine ⟨j + 1, ob1, by simpa using h1, by rw [show k + (j + 1) = k + 1 + j by omega]; exact h2, by rw [show k + (j + 1) = k + 1 + j by omega]; exact h3⟩

theorem strike_len : ∀ (l : List Nat) (B : Heap), (strike l B).length = B.length
  | [], B => rfl
  | o :: r, B => by simp [strike, strike_len r, upd]

theorem strike_get : ∀ {l : List Nat} {B : Heap} {o : Nat} {ob : Obj}, (strike l B)[o]? = some (some ob) → o ∉ l ∧ B[o]? = some (some ob)
  | [], B, o, ob, h => ⟨by simp, h⟩
  | a :: r, B, o, ob, h => by
    simp only [strike] at h
    obtain ⟨h1, h2⟩ := strike_get h
    unfold upd at h2
    by_cases e : a = o
    · subst e
      rw [List.getElem?_set] at h2
      simp only [if_true] at h2
      split at h2
      · cases h2
      · cases h2
    · rw [List.getElem?_set_ne e] at h2
      exact ⟨by simp [h1, Ne.symm e], h2⟩

theorem idxOf_none : ∀ {l : List Nat} {o i : Nat}, o ∉ l → idxOf l o i = none
  | [], _, _, _ => rfl
  | a :: r, o, i, h => by
    simp only [List.mem_cons, not_or] at h
    simp [idxOf, Ne.symm h.1, idxOf_none h.2]

theorem idxOf_get : ∀ {l : List Nat} {o i k : Nat}, l.Nodup → l[k]? = some o → idxOf l o i = some (i + k)
  | [], o, i, k, _, h => by simp at h
  | a :: r, o, i, k, hn, h => by
    obtain ⟨h1, h2⟩ := List.nodup_cons.1 hn
    cases k with
    | zero =>
      simp only [List.getElem?_cons_zero, Option.some.injEq] at h
      simp [idxOf, h]
    | succ k =>
      simp only [List.getElem?_cons_succ] at h
      have : a ≠ o := fun e => h1 (e ▸ List.mem_of_getElem? h)
      simp only [idxOf, this, if_false]
      rw [idxOf_get h2 h]
      congr 1
      omega

/-- what is left behind the callee -/
def backK (K : Kx) (π new : List Nat) (K1 : Kx) (H2 : Heap) : Kx :=
  ⟨fun o => if o < K.H.length then (match idxOf π o 0 with | some k => K1.μ k | none => K.μ o) else K1.μ (new.getD (o - K.H.length) 0), H2, K1.w⟩

def backH (ρ : Nat → Nat → Option (Nat × Nat)) (τ : Nat → Nat) (H : Heap) (π gone new : List Nat) (H1 : Heap) : Heap :=
  strike gone (putBack ρ τ H π H1 0 π H) ++ new.map fun o => (obAt H1 o).map (renObj ρ τ 0)

section
variable {C : Ctx} {K K1 : Kx} {T : Nat → Nat → Prop} {π new gone : List Nat} {ls : List Lent} {n : Nat} {ρ : Nat → Nat → Option (Nat × Nat)} {τ : Nat → Nat}

theorem backH_len : (backH ρ τ K.H π gone new K1.H).length = K.H.length + new.length := by
  simp [backH, strike_len, putBack_len]

theorem backK_get (hnd : π.Nodup) {o : Nat} {ob2 : Obj} (h : (backK K π new K1 (backH ρ τ K.H π gone new K1.H)).H[o]? = some (some ob2)) :
    (o < K.H.length ∧ o ∉ gone ∧ o ∉ π ∧ K.H[o]? = some (some ob2) ∧ (backK K π new K1 (backH ρ τ K.H π gone new K1.H)).μ o = K.μ o) ∨
    (∃ k ob1, o < K.H.length ∧ o ∉ gone ∧ π[k]? = some o ∧ K1.H[k]? = some (some ob1) ∧ ob2 = renObj ρ τ (genBack K.H π k ob1.g) ob1 ∧ (backK K π new K1 (backH ρ τ K.H π gone new K1.H)).μ o = K1.μ k) ∨
    ∃ j k ob1, o = K.H.length + j ∧ new[j]? = some k ∧ K1.H[k]? = some (some ob1) ∧ ob2 = renObj ρ τ 0 ob1 ∧ (backK K π new K1 (backH ρ τ K.H π gone new K1.H)).μ o = K1.μ k := by
  simp only [backK, backH] at h
  by_cases hlt : o < K.H.length
  · rw [List.getElem?_append_left (by rw [strike_len, putBack_len]; exact hlt)] at h
    obtain ⟨h1, h2⟩ := strike_get h
    rcases putBack_get h2 hnd with ⟨h3, h4⟩ | ⟨j, ob1, h3, h4, h5⟩
    · left
      exact ⟨hlt, h1, h3, h4, by simp only [backK, hlt, if_true, idxOf_none h3]⟩
    · right; left
      rw [Nat.zero_add] at h4 h5
      refine ⟨j, ob1, hlt, h1, h3, obAt_some.1 h4, h5, ?_⟩
      simp only [backK, hlt, if_true, idxOf_get (i := 0) hnd h3, Nat.zero_add]
  · right; right
    rw [List.getElem?_append_right (by rw [strike_len, putBack_len]; omega)] at h
    rw [strike_len, putBack_len, List.getElem?_map] at h
    cases hk : new[o - K.H.length]? with
    | none => rw [hk] at h; cases h
    | some k =>
      rw [hk] at h
      simp only [Option.map_some, Option.some.injEq, Option.map_eq_some_iff] at h
      obtain ⟨ob1, h1, h2⟩ := h
      refine ⟨o - K.H.length, k, ob1, by omega, hk, obAt_some.1 h1, h2.symm, ?_⟩
      simp only [backK, hlt, if_false, List.getD_eq_getElem?_getD, hk, Option.getD_some]

/-- where what is left lies -/
theorem backK_own (hnd : π.Nodup) {b : Nat} (h : Own (backK K π new K1 (backH ρ τ K.H π gone new K1.H)) b) : (∃ o, o ∉ π ∧ o ∉ gone ∧ BlkOf K o b) ∨ Own K1 b := by
  obtain ⟨o, ob2, h1, h2, h3⟩ := h
  rcases backK_get hnd h1 with ⟨_, g2, g3, g4, g5⟩ | ⟨k, ob1, _, _, _, g4, rfl, g5⟩ | ⟨j, k, ob1, _, _, g4, rfl, g5⟩
  · rw [g5] at h2 h3
    exact .inl ⟨o, g3, g2, ob2, g4, h2, h3⟩
  · rw [g5] at h2 h3
    exact .inr ⟨k, ob1, g4, (Real.same (same_ren _ _ _ ob1)).1 h2, h3⟩
  · rw [g5] at h2 h3
    exact .inr ⟨k, ob1, g4, (Real.same (same_ren _ _ _ ob1)).1 h2, h3⟩

theorem back_evo (hI : Inv C K T) (hnd : π.Nodup) (hlive : ∀ o ∈ π, ∃ ob, K.H[o]? = some (some ob)) (hn : n + 1 < gtag) (E : Evo (Tc K T π ls) π.length (intoK K π (n + 1)) K1) :
    Evo T K.H.length K (backK K π new K1 (backH ρ τ K.H π gone new K1.H)) where
  lo := Nat.le_refl _
  len := by simp only [backK]; rw [backH_len]; omega
  size := E.size
  os := E.os
  tape := E.tape
  output := E.output
  obj := by
    intro o ho ob' h
    rcases backK_get hnd h with ⟨_, g2, g3, g4, g5⟩ | ⟨k, ob1, _, _, g3, g4, rfl, g5⟩ | ⟨j, k, ob1, g, _⟩
    · exact ⟨ob', g4, Nat.le_refl _, fun _ => ⟨g5, Same.refl _⟩⟩
    · obtain ⟨ob, hob⟩ := hlive o (List.mem_of_getElem? g3)
      have hk : k < π.length := (List.getElem?_eq_some_iff.1 g3).1
      obtain ⟨ob0, h1, h2, h3⟩ := E.obj k hk ob1 g4
      obtain ⟨o2, ob3, q1, q2, q3, q4⟩ := intoK_get h1
      rw [g3] at q1
      simp only [Option.some.injEq] at q1
      subst q1
      rw [hob] at q2
      simp only [Option.some.injEq] at q2
      subst q2; subst q3
      have hg : genBack K.H π k ob1.g = ob.g + (if ob1.g = 0 then 0 else 1) := by
        simp only [genBack, g3, obAt_some.2 hob]
      refine ⟨ob, hob, by simp only [renObj, hg]; omega, fun e => ?_⟩
      have e0 : ob1.g = 0 := by
        simp only [renObj, hg] at e
        by_cases h0 : ob1.g = 0
        · exact h0
        · rw [if_neg h0] at e; omega
      obtain ⟨h4, h5⟩ := h3 (by simp only [renObj]; exact e0)
      rw [g5, h4, q4]
      exact ⟨rfl, (same_ren _ _ _ ob).trans (h5.trans (same_ren _ _ _ ob1))⟩
    · omega
  own := by
    intro b hb h
    rcases backK_own hnd h with ⟨o, _, _, h⟩ | h
    · exact h.own
    · obtain ⟨o, _, h⟩ := intoK_own (E.own b hb h)
      exact h.own
  cells := by
    intro b hb ho off
    exact E.cells b hb (fun h => let ⟨_, _, h⟩ := intoK_own h; ho h.own) off
  exact := by
    intro b hb ho ht
    refine E.exact b hb (fun h => let ⟨_, _, h⟩ := intoK_own h; ho h.own) ?_
    rintro (h | ⟨o, _, h⟩ | ⟨h, _⟩ | ⟨i, x, h, _⟩)
    · omega
    · exact ho h.own
    · simp [gtag] at h
    · omega

end

end Go.AM

/- A call: all of it. -/
namespace Go.AM

section
variable {C : Ctx} {K K1 : Kx} {T : Nat → Nat → Prop} {π new gone : List Nat} {ls : List Lent} {n : Nat} {τ : Nat → Nat}

theorem back_ren (hI : Inv C K T) (hnd : π.Nodup) (hlive : ∀ o ∈ π, ∃ ob, K.H[o]? = some (some ob)) (hn : n + 1 < gtag) (hls : ls.length = n + 1)
    (hI1 : Inv C K1 (Tc K T π ls)) (E : Evo (Tc K T π ls) π.length (intoK K π (n + 1)) K1) {used : List Nat}
    (hu : ∀ t ∈ used, (backTag ls t).isSome = true) (hg : ∀ t ∈ used, ∀ o ∈ goneOf ls t, o ∈ gone) :
    Ren (backN K.H π new K1.H) (backT ls) K1 (backK K π new K1 (backH (backN K.H π new K1.H) (backT ls) K.H π gone new K1.H)) (Tc K T π ls) T (fun t => t ∈ used) where
  w := rfl
  h := by
    intro o g o' g' h
    unfold backN at h
    split at h
    · rename_i ob hob
      obtain ⟨ho, hog⟩ := live_iff.1 hob
      split at h
      · rename_i hlt
        cases hp : π[o]? with
        | none => rw [hp] at h; cases h
        | some x =>
          rw [hp] at h
          simp only [Option.map_some, Option.some.injEq, Prod.mk.injEq] at h
          obtain ⟨rfl, rfl⟩ := h
          obtain ⟨obx, hobx⟩ := hlive x (List.mem_of_getElem? hp)
          have hxl : x < K.H.length := (List.getElem?_eq_some_iff.1 hobx).1
          refine ⟨by simp only [backK]; rw [backH_len]; omega, ob, hob, fun ob' h => ?_⟩
          rcases backK_get hnd h with ⟨_, _, g3, _⟩ | ⟨k, ob1, _, _, g3, g4, rfl, g5⟩ | ⟨j, k, ob1, g, _⟩
          · exact absurd (List.mem_of_getElem? hp) g3
          · have e1 := List.getElem?_eq_some_iff.1 g3
            have e2 := List.getElem?_eq_some_iff.1 hp
            have : k = o := (List.getElem_inj hnd).1 (e1.2.trans e2.2.symm)
            subst this
            rw [ho] at g4
            simp only [Option.some.injEq] at g4
            subst g4
            simp only [renObj, hog, Nat.le_refl, true_and]
            exact fun _ => ⟨g5, same_ren _ _ 0 ob⟩
          · omega
      · rename_i hlt
        cases hi : idxOf new o K.H.length with
        | none => rw [hi] at h; cases h
        | some k =>
          rw [hi] at h
          simp only [Option.map_some, Option.some.injEq, Prod.mk.injEq] at h
          obtain ⟨rfl, rfl⟩ := h
          obtain ⟨h1, h2⟩ := idxOf_some hi
          have h3 := (List.getElem?_eq_some_iff.1 h2).1
          refine ⟨by simp only [backK]; rw [backH_len]; omega, ob, hob, fun ob' h => ?_⟩
          rcases backK_get hnd h with ⟨q1, _⟩ | ⟨k, ob1, q1, _⟩ | ⟨j, k', ob1, g, g3, g4, rfl, g5⟩
          · omega
          · omega
          · have : j = k - K.H.length := by omega
            subst this
            rw [h2] at g3
            simp only [Option.some.injEq] at g3
            subst g3
            rw [ho] at g4
            simp only [Option.some.injEq] at g4
            subst g4
            exact ⟨Nat.zero_le _, fun _ => ⟨g5, same_ren _ _ 0 ob⟩⟩
    · cases h
  t := by
    intro t ht b hb
    obtain ⟨h1, h2, h3⟩ := hb
    have hs := hu t ht
    refine ⟨?_, fun hO => ?_, h3⟩
    · rcases h1 with h | ⟨o, _, h⟩ | ⟨h, _⟩ | ⟨i, x, h, hx, hb⟩
      · exact hI.mono _ _ (hI.new b h)
      · exact hI.mono _ _ (hI.own b h.own).2
      · subst h
        have : ls[gtag - 1]? = none := List.getElem?_eq_none (by rw [hls]; omega)
        rw [backTag, if_neg (by simp [gtag]), this] at hs
        cases hs
      · subst h
        simp only [backTag, Nat.add_one_ne_zero, if_false, Nat.add_sub_cancel, hx] at hs
        obtain ⟨s, hs⟩ := Option.isSome_iff_exists.1 hs
        have e : backT ls (i + 1) = s := by simp [backT, backTag, hx, hs]
        rw [e]
        rcases hb with ⟨o, _, h⟩ | ⟨t', ht', h⟩
        · exact hI.mono _ _ (hI.own b h.own).2
        · exact joinTags_ok hI.mono hs t' ht' b h.1
    · rcases backK_own hnd hO with ⟨o', g1, g2, g3⟩ | h
      · rcases h1 with h | ⟨o, ho, h⟩ | ⟨h, _⟩ | ⟨i, x, h, hx, hb⟩
        · exact absurd (hI.own b g3.own).1 (by omega)
        · exact g1 (by rw [BlkOf.inj hI g3 h]; exact ho)
        · subst h
          have : ls[gtag - 1]? = none := List.getElem?_eq_none (by rw [hls]; omega)
          rw [backTag, if_neg (by simp [gtag]), this] at hs
          cases hs
        · subst h
          rcases hb with ⟨o, ho, h⟩ | ⟨t', ht', h⟩
          · refine g2 (hg _ ht o' ?_)
            rw [BlkOf.inj hI g3 h]
            simp only [goneOf, Nat.add_one_ne_zero, if_false, Nat.add_sub_cancel, hx]
            exact ho
          · exact h.2.1 g3.own
      · exact h2 h

theorem back_inv (hI : Inv C K T) (hnd : π.Nodup) (hlive : ∀ o ∈ π, ∃ ob, K.H[o]? = some (some ob)) (hn : n + 1 < gtag) (hls : ls.length = n + 1)
    (hI1 : Inv C K1 (Tc K T π ls)) (E : Evo (Tc K T π ls) π.length (intoK K π (n + 1)) K1) {used : List Nat}
    (hu : ∀ t ∈ used, (backTag ls t).isSome = true) (hg : ∀ t ∈ used, ∀ o ∈ goneOf ls t, o ∈ gone) (hnn : new.Nodup) (hnew : ∀ k ∈ new, π.length ≤ k)
    (hu1 : ∀ t ∈ tagsObjs ((List.range π.length).map (obAt K1.H)), t ∈ used) (hu2 : ∀ t ∈ tagsObjs (new.map (obAt K1.H)), t ∈ used) :
    Inv C (backK K π new K1 (backH (backN K.H π new K1.H) (backT ls) K.H π gone new K1.H)) T := by
  have hE := back_evo (new := new) (gone := gone) (ρ := backN K.H π new K1.H) (τ := backT ls) hI hnd hlive hn E
  have hR := back_ren (new := new) hI hnd hlive hn hls hI1 E hu hg
  -- a block of K that stays: untouched
  have hstay : ∀ {o b : Nat}, BlkOf K o b → o ∉ π → ¬ Own (intoK K π (n + 1)) b ∧ ¬ Tc K T π ls 0 b := by
    intro o b h ho
    refine ⟨fun h' => ?_, ?_⟩
    · obtain ⟨o', h1, h2⟩ := intoK_own h'
      exact ho (by rw [BlkOf.inj hI h h2]; exact h1)
    · rintro (h' | ⟨o', h1, h2⟩ | ⟨h', _⟩ | ⟨i, x, h', _⟩)
      · exact absurd (hI.own b h.own).1 (by omega)
      · exact ho (by rw [BlkOf.inj hI h h2]; exact h1)
      · simp [gtag] at h'
      · omega
  have hsep : ∀ {o b : Nat}, BlkOf K o b → o ∉ π → ¬ Own K1 b := fun h ho h' => (hstay h ho).1 (E.own _ (hI.own _ h.own).1 h')
  constructor
  · -- obj
    intro o ob2 h
    rcases backK_get hnd h with ⟨_, g2, g3, g4, g5⟩ | ⟨k, ob1, _, _, g3, g4, rfl, g5⟩ | ⟨j, k, ob1, _, g3, g4, rfl, g5⟩
    · refine ObjOk.evo hE (Nat.le_refl _) g5 (fun hr => ?_) (hI.obj o ob2 g4)
      have hb : BlkOf K o (K.μ o).blk := ⟨ob2, g4, hr, rfl⟩
      obtain ⟨h1, h2⟩ := hstay hb g3
      exact E.exact _ (hI.own _ hb.own).1 h1 h2
    · refine ObjOk.ren hR (fun t ht => hu1 t (tagsObjs_mem (List.mem_map.2 ⟨k, ?_, obAt_some.2 g4⟩) t ht)) g5 (hI1.obj k ob1 g4)
      exact List.mem_range.2 (List.getElem?_eq_some_iff.1 g3).1
    · exact ObjOk.ren hR (fun t ht => hu2 t (tagsObjs_mem (List.mem_map.2 ⟨k, List.mem_of_getElem? g3, obAt_some.2 g4⟩) t ht)) g5 (hI1.obj k ob1 g4)
  · -- inj
    intro o o' ob ob' h h' hr hr' hb
    rcases backK_get hnd h with ⟨_, g2, g3, g4, g5⟩ | ⟨k, ob1, _, _, g3, g4, rfl, g5⟩ | ⟨j, k, ob1, gj, g3, g4, rfl, g5⟩ <;>
    rcases backK_get hnd h' with ⟨_, g2', g3', g4', g5'⟩ | ⟨k', ob1', _, _, g3', g4', rfl, g5'⟩ | ⟨j', k', ob1', gj', g3', g4', rfl, g5'⟩ <;>
    rw [g5] at hr hb <;> rw [g5'] at hr' hb
    · exact hI.inj o o' ob ob' g4 g4' hr hr' hb
    · exact absurd ⟨k', ob1', g4', (Real.same (same_ren _ _ _ _)).1 hr', rfl⟩ (hsep ⟨ob, g4, hr, hb⟩ g3)
    · exact absurd ⟨k', ob1', g4', (Real.same (same_ren _ _ _ _)).1 hr', rfl⟩ (hsep ⟨ob, g4, hr, hb⟩ g3)
    · exact absurd ⟨k, ob1, g4, (Real.same (same_ren _ _ _ _)).1 hr, rfl⟩ (hsep ⟨ob', g4', hr', hb.symm⟩ g3')
    · have := hI1.inj k k' ob1 ob1' g4 g4' ((Real.same (same_ren _ _ _ _)).1 hr) ((Real.same (same_ren _ _ _ _)).1 hr') hb
      subst this
      rw [g3] at g3'
      exact Option.some.inj g3'
    · have := hI1.inj k k' ob1 ob1' g4 g4' ((Real.same (same_ren _ _ _ _)).1 hr) ((Real.same (same_ren _ _ _ _)).1 hr') hb
      subst this
      have h1 := (List.getElem?_eq_some_iff.1 g3).1
      have h2 := hnew k (List.mem_of_getElem? g3')
      omega
    · exact absurd ⟨k, ob1, g4, (Real.same (same_ren _ _ _ _)).1 hr, rfl⟩ (hsep ⟨ob', g4', hr', hb.symm⟩ g3')
    · have := hI1.inj k k' ob1 ob1' g4 g4' ((Real.same (same_ren _ _ _ _)).1 hr) ((Real.same (same_ren _ _ _ _)).1 hr') hb
      subst this
      have h1 := (List.getElem?_eq_some_iff.1 g3').1
      have h2 := hnew k (List.mem_of_getElem? g3)
      omega
    · have := hI1.inj k k' ob1 ob1' g4 g4' ((Real.same (same_ren _ _ _ _)).1 hr) ((Real.same (same_ren _ _ _ _)).1 hr') hb
      subst this
      have e1 := List.getElem?_eq_some_iff.1 g3
      have e2 := List.getElem?_eq_some_iff.1 g3'
      have : j = j' := (List.getElem_inj hnn).1 (e1.2.trans e2.2.symm)
      omega
  · -- own
    intro b h
    rcases backK_own hnd h with ⟨o, _, _, h⟩ | h
    · exact ⟨Nat.lt_of_lt_of_le (hI.own b h.own).1 E.size, (hI.own b h.own).2⟩
    · obtain ⟨h1, h2⟩ := hI1.own b h
      refine ⟨h1, ?_⟩
      rcases h2 with h | ⟨o, _, h⟩ | ⟨h, _⟩ | ⟨i, x, h, _⟩
      · exact hI.new b h
      · exact (hI.own b h.own).2
      · simp [gtag] at h
      · omega
  · exact fun b hb => hI.new b (Nat.le_trans E.size hb)
  · exact hI.mono
  · intro g p hg
    obtain ⟨h1, h2, h3⟩ := hI.glob g p hg
    have h4 := NT.evo hE h2
    exact ⟨h1, h4.1, RP_mono (fun b hb => NT.evo hE hb) p _ _ (fun j u hu => h4.2 _ _ hu) h3⟩

end

/-- what a call must give -/
def Gives (C : Ctx) (T : Nat → Nat → Prop) (K : Kx) (x : AV) (H' : Heap) : Ending → World → Prop
  | .returned v, w' => ∃ μ', Inv C ⟨μ', H', w'⟩ T ∧ Evo T K.H.length K ⟨μ', H', w'⟩ ∧ VRel ⟨μ', H', w'⟩ T x v
  | _, _ => False

def CfOk (C : Ctx) (cf : Cf) : Prop := ∀ f args H x H', cf f args H = some (x, H') → ∀ K T (vs : Array Value), K.H = H → Inv C K T → ArgsRel K T args vs.toList →
  Calls C.P f vs K.w (Gives C T K x H')

theorem disjoint_iff : ∀ {a b : List Nat}, disjoint a b = true ↔ ∀ o ∈ a, o ∉ b
  | [], b => by simp [disjoint]
  | x :: r, b => by simp [disjoint, disjoint_iff (a := r)]

theorem lendArgs_len {C : Ctx} {f : Nat} {H : Heap} : ∀ {args : List AV} {i : Nat} {as : List AV} {xs : List Lent}, lendArgs C f H i args = some (as, xs) → xs.length = as.length
  | [], i, as, xs, h => by
    simp only [lendArgs, Option.some.injEq, Prod.mk.injEq] at h
    obtain ⟨rfl, rfl⟩ := h
    rfl
  | a :: r, i, as, xs, h => by
    simp only [lendArgs] at h
    split at h
    · rename_i h2
      simp only [Option.some.injEq, Prod.mk.injEq] at h
      obtain ⟨rfl, rfl⟩ := h
      simp [lendArgs_len h2]
    · cases h

theorem enterV_ok {C : Ctx} {body : Cf} (hb : CfOk C body) : CfOk C (enterV C body) := by
  intro f args H x H' h K T vs hK hI ha
  subst hK
  unfold enterV at h
  split at h
  · cases h
  · rename_i as xs hl
    simp only at h
    obtain ⟨hnd, hlive⟩ := reach_ok K.H reachFuel (idsL as) [] List.nodup_nil (by simp)
    generalize reach K.H reachFuel (idsL as) [] = π at h hnd hlive
    split at h
    · rename_i hc
      simp only [Bool.and_eq_true, decide_eq_true_eq, List.all_eq_true] at hc
      obtain ⟨hdis, hn⟩ := hc
      have hlen := lendArgs_len hl
      split at h
      · cases h
      · rename_i v H1 hbody
        generalize hls : xs ++ [⟨[], tagsObjs (π.map (obAt K.H))⟩] = ls at h
        have hlsl : ls.length = as.length + 1 := by rw [← hls]; simp [hlen]
        have hother : ls[as.length]? = some ⟨[], tagsObjs (π.map (obAt K.H))⟩ := by rw [← hls, ← hlen]; simp
        have hI0 := intoK_inv hI hnd hn hother
        have hargs : ArgsRel (intoK K π (as.length + 1)) (Tc K T π ls) (coerce C (renL (intoN K.H π) (fun t => t) as) (paramsOf C f)) vs.toList := by
          refine coerce_ok (lendArgs_ok hI ha hl (fun j y hy => ?_) (fun y hy => disjoint_iff.1 (hdis y hy)))
          rw [← hls, Nat.zero_add]
          rw [List.getElem?_append_left (List.getElem?_eq_some_iff.1 hy).1]
          exact hy
        have hcalls := hb f _ _ v H1 hbody (intoK K π (as.length + 1)) (Tc K T π ls) vs rfl hI0 hargs
        refine Calls.mono hcalls fun e w' he => ?_
        cases e with
        | panicked c => exact he
        | outgrown => exact he
        | returned u =>
          obtain ⟨μ1, hI1, E, hv⟩ := he
          have hE : Evo (Tc K T π ls) π.length (intoK K π (as.length + 1)) ⟨μ1, H1, w'⟩ := by
            have : (intoK K π (as.length + 1)).H.length = π.length := by simp [intoK]
            rw [this] at E
            exact E
          simp only [wrap] at h
          obtain ⟨hnd1, _⟩ := reach_ok H1 reachFuel (List.range π.length ++ ids v) [] List.nodup_nil (by simp)
          generalize reach H1 reachFuel (List.range π.length ++ ids v) [] = Kr at h hnd1
          split at h
          · rename_i hu
            simp only [List.all_eq_true] at hu
            simp only [Option.some.injEq, Prod.mk.injEq] at h
            obtain ⟨rfl, rfl⟩ := h
            have hg : ∀ t ∈ (tags v ++ tagsObjs ((List.range π.length).map (obAt H1)) ++ tagsObjs ((Kr.filter fun o => π.length ≤ o).map (obAt H1))), ∀ o ∈ goneOf ls t,
                o ∈ (tags v ++ tagsObjs ((List.range π.length).map (obAt H1)) ++ tagsObjs ((Kr.filter fun o => π.length ≤ o).map (obAt H1))).flatMap (goneOf ls) :=
              fun t ht o ho => List.mem_flatMap.2 ⟨t, ht, ho⟩
            have hR := back_ren (new := Kr.filter fun o => π.length ≤ o) hI hnd hlive hn hlsl hI1 hE hu hg
            have hI2 := back_inv (new := Kr.filter fun o => π.length ≤ o) hI hnd hlive hn hlsl hI1 hE hu hg (hnd1.filter _) (fun k hk => by simpa using (List.mem_filter.1 hk).2)
              (fun t ht => by simp only [List.mem_append]; exact .inl (.inr ht)) (fun t ht => by simp only [List.mem_append]; exact .inr ht)
            have hE2 := back_evo (new := Kr.filter fun o => π.length ≤ o) (gone := (tags v ++ tagsObjs ((List.range π.length).map (obAt H1)) ++ tagsObjs ((Kr.filter fun o => π.length ≤ o).map (obAt H1))).flatMap (goneOf ls))
              (ρ := backN K.H π (Kr.filter fun o => π.length ≤ o) H1) (τ := backT ls) hI hnd hlive hn hE
            exact ⟨_, hI2, hE2, VRel.ren hR (fun t ht => by simp only [List.mem_append]; exact .inl (.inl ht)) hv⟩
          · cases h
    · cases h

end Go.AM

/- What an operation may turn, and what a quiet one looks at. -/
namespace Go.AM

section
variable {C : Ctx} {cf : Cf}

/-- the object that a handle leads to -/
def hd : AV → Option Nat
  | .ptr o _ _ _ => some o
  | .sl o _ _ _ => some o
  | .map o _ => some o
  | _ => none

theorem hd_ids {a : AV} {o : Nat} (h : hd a = some o) : o ∈ ids a := by
  cases a <;> simp only [hd, reduceCtorEq, Option.some.injEq] at h <;> simp [ids, h]

theorem live_congr {H H2 : Heap} {o : Nat} (h : H2[o]? = H[o]?) (g : Nat) : live H2 o g = live H o g := by
  unfold live; rw [h]

theorem ofCell_ids (v : Value) : ids (ofCell v) = [] := by
  unfold ofCell; split <;> simp [ids, idsL]

theorem idsL_nil_iff : ∀ {l : List AV}, idsL l = [] ↔ ∀ a ∈ l, ids a = []
  | [] => by simp [idsL]
  | a :: r => by simp [idsL, idsL_nil_iff (l := r)]

theorem chunks_ids {e : Nat} : ∀ {n : Nat} {l : List AV}, idsL l = [] → idsL (chunks e n l) = []
  | 0, l, h => rfl
  | n + 1, l, h => by
    have h' := idsL_nil_iff.1 h
    simp only [chunks, idsL, ids, List.append_eq_nil_iff]
    exact ⟨idsL_nil_iff.2 fun a ha => h' a (List.mem_of_mem_take ha), chunks_ids (idsL_nil_iff.2 fun a ha => h' a (List.mem_of_mem_drop ha))⟩

theorem mkAgg_ids {t : TypeId} {l : List AV} {p : AV} (hl : idsL l = []) (h : mkAgg C t l = some p) : ids p = [] := by
  unfold mkAgg at h
  split at h
  · split at h
    · simp only [Option.map_eq_some_iff] at h; obtain ⟨_, _, rfl⟩ := h; rfl
    · simp only [Option.map_eq_some_iff] at h; obtain ⟨_, _, rfl⟩ := h; rfl
    · split at h
      · simp only [Option.some.injEq] at h; subst h; exact chunks_ids hl
      · cases h
    · split at h
      · simp only [Option.some.injEq] at h; subst h; exact chunks_ids hl
      · cases h
    · simp only [Option.some.injEq] at h; subst h; exact hl
  · simp only [Option.some.injEq] at h; subst h; exact hl

theorem ofVal_ids (t : TypeId) (v : Value) : ids (ofVal C t v) = [] := by
  unfold ofVal
  split
  · rename_i cs
    split
    · split
      · rename_i p hp
        have : idsL (cs.toList.map ofCell) = [] := idsL_nil_iff.2 fun a ha => by
          obtain ⟨v, _, rfl⟩ := List.mem_map.1 ha
          exact ofCell_ids v
        simp only [ids]
        exact mkAgg_ids this hp
      · rfl
    · rfl
  · exact ofCell_ids v

theorem evalT_ids {fr : Frame} {t : TypeId} {x : Operand} {o : Nat} (h : o ∈ ids (evalT C fr t x)) : o ∈ ids (evalO C fr x) := by
  cases x <;> simp only [evalT] at h <;> try exact h
  rw [ofVal_ids] at h
  cases h

theorem opVals_ids {fr : Frame} {o : Oper} {x : Operand} (hx : x ∈ o.op.operands) {y : Nat} (hy : y ∈ ids (evalO C fr x)) : y ∈ idsL (opVals C fr o) :=
  idsL_mem (List.mem_map.2 ⟨x, by simpa using hx, rfl⟩) y hy

-- quiet operations

theorem isNil_congr {H H2 : Heap} {t : TypeId} {x : AV} (h : ∀ o, hd x = some o → H2[o]? = H[o]?) : isNil C H2 t x = isNil C H t x := by
  unfold isNil
  split <;> first | rfl | (rw [live_congr (h _ rfl)])

theorem eqV_congr {H H2 : Heap} {t : TypeId} {x y : AV} {xo yo : Operand} (h1 : ∀ o, hd x = some o → H2[o]? = H[o]?) (h2 : ∀ o, hd y = some o → H2[o]? = H[o]?) : eqV C H2 t x y xo yo = eqV C H t x y xo yo := by
  unfold eqV
  rw [isNil_congr h1, isNil_congr h2]

theorem binV_congr {H H2 : Heap} {op : BinOp} {t : TypeId} {x y : AV} {xo yo : Operand} (h1 : ∀ o, hd x = some o → H2[o]? = H[o]?) (h2 : ∀ o, hd y = some o → H2[o]? = H[o]?) : binV C H2 op t x y xo yo = binV C H op t x y xo yo := by
  unfold binV
  rw [eqV_congr h1 h2]

theorem readSl_congr {H H2 : Heap} {x : AV} (h : ∀ o, hd x = some o → H2[o]? = H[o]?) : readSl H2 x = readSl H x := by
  unfold readSl
  split <;> first | rfl | (rw [live_congr (h _ rfl)])

theorem loadV_congr {H H2 : Heap} {t : TypeId} {x : AV} (h : ∀ o, hd x = some o → H2[o]? = H[o]?) : loadV C H2 t x = loadV C H t x := by
  unfold loadV
  split
  · rfl
  · split <;> first | rfl | (rw [live_congr (h _ rfl)])

theorem sliceV_congr {H H2 : Heap} {t : TypeId} {x : AV} {lo hi : Option AV} (h : ∀ o, hd x = some o → H2[o]? = H[o]?) : sliceV C H2 t x lo hi = sliceV C H t x lo hi := by
  unfold sliceV
  split <;> first | rfl | (rw [live_congr (h _ rfl)])

theorem fieldAddrV_congr {H H2 : Heap} {t : TypeId} {x : AV} {n : Nat} (h : ∀ o, hd x = some o → H2[o]? = H[o]?) : fieldAddrV C H2 t x n = fieldAddrV C H t x n := by
  unfold fieldAddrV
  split
  · rfl
  · split
    · rfl
    · split <;> first | rfl | (rw [live_congr (h _ rfl)])

theorem indexAddrV_congr {H H2 : Heap} {t : TypeId} {x ix : AV} (h : ∀ o, hd x = some o → H2[o]? = H[o]?) : indexAddrV C H2 t x ix = indexAddrV C H t x ix := by
  unfold indexAddrV
  split
  · split <;> first | rfl | (rw [live_congr (h _ rfl)])
  · rfl

theorem lenV_congr {H H2 : Heap} {t : TypeId} {x : AV} (h : ∀ o, hd x = some o → H2[o]? = H[o]?) : lenV C H2 t x = lenV C H t x := by
  unfold lenV
  split <;> first | rfl | (rw [live_congr (h _ rfl)])

theorem capV_congr {H H2 : Heap} {t : TypeId} {x : AV} (h : ∀ o, hd x = some o → H2[o]? = H[o]?) : capV C H2 t x = capV C H t x := by
  unfold capV
  split <;> first | rfl | (rw [live_congr (h _ rfl)])

theorem map_swap {m m' : Option AV} {H H2 : Heap} {v : AV} {H' : Heap} (e : m' = m) (h : (m.map fun v => (v, H)) = some (v, H')) : (m'.map fun v => (v, H2)) = some (v, H2) := by
  subst e
  cases m' with
  | none => cases h
  | some y =>
    simp only [Option.map_some, Option.some.injEq, Prod.mk.injEq] at h
    rw [h.1]
    rfl

theorem convV_at {H H2 H' : Heap} {s d : TypeId} {x v : AV} (hx : ∀ o, hd x = some o → H2[o]? = H[o]?) (h : convV C H s d x = some (v, H')) : convV C H2 s d x = some (v, H2) := by
  unfold convV at h ⊢
  rw [readSl_congr hx]
  by_cases hs : okT C s = false
  · rw [if_pos hs] at h; cases h
  rw [if_neg hs] at h ⊢
  generalize und C d = D at h ⊢
  generalize readSl H x = R at h ⊢
  generalize und C s = S at h ⊢
  have : ∀ z : AV, some (z, H) = some (v, H') → some (z, H2) = some (v, H2) := fun z hz => by
    simp only [Option.some.injEq, Prod.mk.injEq] at hz
    rw [hz.1]
  repeat' (split at h)
  all_goals first
    | (cases h; done)
    | exact this _ h
    | (rename_i hc; rw [if_pos hc]; exact this _ h)
    | (rename_i hc _ _; rw [if_pos hc]; exact this _ h)
    | (rename_i hc _; rw [if_pos hc]; exact this _ h)

theorem quiet_at {fr : Frame} {H H' H2 : Heap} {o : Oper} {v : AV} (hq : quietO C o = true) (hf : freeO C o = false) (h : step C cf fr H o = some (v, H')) (hx : ∀ x ∈ idsL (opVals C fr o), H2[x]? = H[x]?) :
    step C cf fr H2 o = some (v, H2) := by
  have hO : ∀ y, y ∈ o.op.operands → ∀ x, hd (evalO C fr y) = some x → H2[x]? = H[x]? := fun y hy x h => hx x (opVals_ids hy (hd_ids h))
  have hT : ∀ t y, y ∈ o.op.operands → ∀ x, hd (evalT C fr t y) = some x → H2[x]? = H[x]? := fun t y hy x h => hx x (opVals_ids hy (evalT_ids (hd_ids h)))
  obtain ⟨dst, op, type, pos, after, guard⟩ := o
  cases op <;> simp only [quietO] at hq <;> try exact absurd hq (by simpa using hf)
  all_goals simp only [Op.operands] at hO hT
  all_goals simp only [step] at h ⊢
  case buildSlice t n ps =>
    cases hu : und C t <;> rw [hu] at hq <;> simp only [Bool.false_eq_true] at hq
    case slice e =>
      unfold buildSliceV at h ⊢
      simp only [hu, hq, if_true] at h ⊢
      split at h
      · rename_i hc
        rw [if_pos hc]
        split at h
        · cases h
        · split at h
          · rename_i hl
            rw [if_pos hl]
            exact map_swap rfl h
          · cases h
      · cases h
  case load t x => exact map_swap (loadV_congr (hO x (by simp))) h
  case nilCheck x =>
    split at h
    · rename_i o i f g he
      rw [live_congr (hO x (by simp) o (by rw [he]; rfl))]
      split at h
      · simp only [Option.some.injEq, Prod.mk.injEq] at h; rw [h.1]
      · cases h
    · simp only [Option.some.injEq, Prod.mk.injEq] at h; rw [h.1]
    · cases h
  case binOp op t x y ne => exact map_swap (binV_congr (hT t x (by simp)) (hT t y (by simp))) h
  case convert s d x => exact convV_at (hT s x (by simp)) h
  case slice t x lo hi mx =>
    split at h
    · rename_i hm
      rw [if_pos hm]
      exact map_swap (sliceV_congr (hT t x (by simp))) h
    · cases h
  case fieldAddr s x n => exact map_swap (fieldAddrV_congr (hO x (by simp))) h
  case indexAddr t x ix => exact map_swap (indexAddrV_congr (hO x (by simp))) h
  case call c =>
    cases hc : c.callee with
    | builtin b =>
      rw [hc] at hq
      have hA : ∀ (l : List Operand) (ts : List TypeId), (∀ y ∈ l, y ∈ c.args) → ∀ a ∈ evalArgs C fr l ts, ∀ x, hd a = some x → H2[x]? = H[x]? := by
        intro l
        induction l with
        | nil => intro ts _ a ha; simp [evalArgs] at ha
        | cons y r ih =>
          intro ts hl a ha x hx'
          simp only [evalArgs, List.mem_cons] at ha
          have hy : y ∈ (Call.operands c) := by
            simp only [Call.operands, hc]
            exact Array.mem_append.2 (.inr (hl y (by simp)))
          rcases ha with rfl | ha
          · cases ts with
            | nil => exact hO y hy x hx'
            | cons t ts => exact hT t y hy x hx'
          · exact ih _ (fun z hz => hl z (by simp [hz])) a ha x hx'
      have hA' := hA c.args.toList c.argTypes.toList (fun y hy => Array.mem_toList_iff.1 hy)
      simp only [callV, hc] at h ⊢
      generalize evalArgs C fr c.args.toList c.argTypes.toList = args at h hA' ⊢
      cases b <;> simp only [Bool.false_eq_true] at hq
      all_goals
        cases hts : c.argTypes.toList with
        | nil => rw [hts] at h; simp [builtinV] at h
        | cons t ts =>
          rw [hts] at h
          cases args with
          | nil => simp [builtinV] at h
          | cons a r =>
            simp only [builtinV] at h ⊢
            first
            | (rw [lenV_congr (H := H) (hA' a (by simp))]
               cases hm : lenV C H t a with
               | none => rw [hm] at h; cases h
               | some z =>
                 rw [hm] at h
                 simp only [Option.map_some, Option.some.injEq, Prod.mk.injEq] at h
                 rw [← h.1]; rfl)
            | (rw [capV_congr (H := H) (hA' a (by simp))]
               cases hm : capV C H t a with
               | none => rw [hm] at h; cases h
               | some z =>
                 rw [hm] at h
                 simp only [Option.map_some, Option.some.injEq, Prod.mk.injEq] at h
                 rw [← h.1]; rfl)
    | value x => rw [hc] at hq; simp at hq
    | invoke r n => rw [hc] at hq; simp at hq

-- what is turned

/-- only objects of l turn -/
def Only (l : List Nat) (H H' : Heap) : Prop := H.length ≤ H'.length ∧ ∀ x, x < H.length → x ∉ l → H'[x]? = H[x]?

theorem Only.refl (l : List Nat) (H : Heap) : Only l H H := ⟨Nat.le_refl _, fun _ _ _ => rfl⟩

theorem Only.trans {l : List Nat} {A B D : Heap} (h : Only l A B) (k : Only l B D) : Only l A D :=
  ⟨Nat.le_trans h.1 k.1, fun x hx hl => (k.2 x (Nat.lt_of_lt_of_le hx h.1) hl).trans (h.2 x hx hl)⟩

theorem Only.push (l : List Nat) (H : Heap) (z : List (Option Obj)) : Only l H (H ++ z) :=
  ⟨by simp, fun x hx _ => by rw [List.getElem?_append_left hx]⟩

theorem Only.upd {l : List Nat} {H : Heap} {o : Nat} (h : o ∈ l) (z : Option Obj) : Only l H (upd H o z) := by
  refine ⟨by simp [AM.upd], fun x _ hl => ?_⟩
  have : o ≠ x := fun e => hl (e ▸ h)
  simp [AM.upd, List.getElem?_set_ne this]

theorem Only.mono {l l' : List Nat} {H H' : Heap} (h : Only l H H') (hl : ∀ x ∈ l, x ∈ l') : Only l' H H' := ⟨h.1, fun x hx hn => h.2 x hx fun hx' => hn (hl x hx')⟩

theorem freezeV_only {H H' : Heap} {a b : AV} (h : freezeV H a = some (b, H')) : Only (ids a) H H' := by
  unfold freezeV at h
  split at h
  · split at h
    · split at h
      · cases h
      · split at h
        · simp only [Option.some.injEq, Prod.mk.injEq] at h
          obtain ⟨_, rfl⟩ := h
          exact Only.upd (by simp [ids]) _
        · cases h
    · cases h
  · simp only [Option.some.injEq, Prod.mk.injEq] at h
    obtain ⟨_, rfl⟩ := h
    exact Only.refl _ _

theorem freezeL_only : ∀ {l l' : List AV} {H H' : Heap}, freezeL H l = some (l', H') → Only (idsL l) H H'
  | [], l', H, H', h => by
    simp only [freezeL, Option.some.injEq, Prod.mk.injEq] at h
    obtain ⟨_, rfl⟩ := h
    exact Only.refl _ _
  | a :: r, l', H, H', h => by
    simp only [freezeL] at h
    split at h
    · rename_i b H1 h1
      split at h
      · rename_i r' H2 h2
        simp only [Option.some.injEq, Prod.mk.injEq] at h
        obtain ⟨_, rfl⟩ := h
        exact ((freezeV_only h1).mono fun x hx => by simp [idsL, hx]).trans ((freezeL_only h2).mono fun x hx => by simp [idsL, hx])
      · cases h
    · cases h

theorem freezeP_only {H H' : Heap} {a b : AV} (h : freezeP H a = some (b, H')) : Only (ids a) H H' := by
  unfold freezeP at h
  split at h
  · split at h
    · rename_i l' H1 h1
      simp only [Option.some.injEq, Prod.mk.injEq] at h
      obtain ⟨_, rfl⟩ := h
      exact (freezeL_only h1).mono fun x hx => by simpa [ids] using hx
    · cases h
  · exact freezeV_only h

theorem freezePs_only : ∀ {l l' : List AV} {H H' : Heap}, freezePs H l = some (l', H') → Only (idsL l) H H'
  | [], l', H, H', h => by
    simp only [freezePs, Option.some.injEq, Prod.mk.injEq] at h
    obtain ⟨_, rfl⟩ := h
    exact Only.refl _ _
  | a :: r, l', H, H', h => by
    simp only [freezePs] at h
    split at h
    · rename_i b H1 h1
      split at h
      · rename_i r' H2 h2
        simp only [Option.some.injEq, Prod.mk.injEq] at h
        obtain ⟨_, rfl⟩ := h
        exact ((freezeP_only h1).mono fun x hx => by simp [idsL, hx]).trans ((freezePs_only h2).mono fun x hx => by simp [idsL, hx])
      · cases h
    · cases h

theorem storeV_only {H H' : Heap} {t : TypeId} {a v : AV} (h : storeV C H t a v = some H') : Only (ids a ++ ids v) H H' := by
  unfold storeV at h
  split at h
  · rename_i o i f g
    have ho : ∀ (H : Heap) (z : Option Obj), Only (ids (.ptr o i f g) ++ ids v) H (upd H o z) := fun H z => Only.upd (by simp [ids]) z
    split at h
    · cases h
    · rename_i ob _
      split at h
      · cases hp : putV C ob t i f v with
        | none => rw [hp] at h; cases h
        | some p =>
          rw [hp] at h
          simp only [Option.map_some, Option.some.injEq] at h
          subst h
          exact ho _ _
      · split at h
        · cases h
        · rename_i v2 H2 h2
          have h3 := (freezeP_only h2).mono (l' := ids (.ptr o i f g) ++ ids v) fun x hx => by simp [hx]
          split at h
          · cases h
          · rename_i ob2 _
            split at h
            · split at h
              · cases h
              · split at h
                · cases h
                · cases hp : putV C ob2 t i f v2 with
                  | none => rw [hp] at h; cases h
                  | some p =>
                    rw [hp] at h
                    simp only [Option.map_some, Option.some.injEq] at h
                    subst h
                    exact h3.trans (ho _ _)
            · cases h
  · cases h

theorem appendV_only {H H' : Heap} {t : TypeId} {s x v : AV} (h : appendV C H t s x = some (v, H')) : Only (ids s) H H' := by
  unfold appendV at h
  repeat' (split at h)
  all_goals first
    | (cases h; done)
    | (simp only [Option.some.injEq, Prod.mk.injEq] at h
       obtain ⟨_, rfl⟩ := h
       first
       | exact Only.push _ _ _
       | exact Only.refl _ _
       | exact Only.upd (by simp [ids]) _)

theorem zeroAV_ids (t : TypeId) : ids (zeroAV C t) = [] := by
  unfold zeroAV
  split
  · exact ofVal_ids _ _
  · rfl

theorem setParts_ids {n : Nat} {S : List Nat} : ∀ {parts : List (Nat × AV)} {l l' : List AV}, setParts n l parts = some l' → (∀ a ∈ l, ∀ x ∈ ids a, x ∈ S) → (∀ p ∈ parts, ∀ x ∈ ids p.2, x ∈ S) → ∀ a ∈ l', ∀ x ∈ ids a, x ∈ S
  | [], l, l', h, hl, _ => by
    simp only [setParts, Option.some.injEq] at h
    subst h
    exact hl
  | (i, v) :: r, l, l', h, hl, hp => by
    simp only [setParts] at h
    split at h
    · refine setParts_ids h (fun a ha x hx => ?_) fun p hp' => hp p (by simp [hp'])
      rcases List.mem_or_eq_of_mem_set ha with ha | rfl
      · exact hl a ha x hx
      · exact hp (i, a) (by simp) x hx
    · cases h

theorem idsL_sub {S : List Nat} : ∀ {l : List AV}, (∀ a ∈ l, ∀ x ∈ ids a, x ∈ S) → ∀ x ∈ idsL l, x ∈ S
  | [], _, x, hx => by simp [idsL] at hx
  | a :: r, h, x, hx => by
    simp only [idsL, List.mem_append] at hx
    rcases hx with hx | hx
    · exact h a (by simp) x hx
    · exact idsL_sub (fun b hb => h b (by simp [hb])) x hx

theorem buildSliceV_only {H H' : Heap} {t : TypeId} {n : Nat} {parts : List (Nat × AV)} {v : AV} {S : List Nat} (hp : ∀ p ∈ parts, ∀ x ∈ ids p.2, x ∈ S) (h : buildSliceV C H t n parts = some (v, H')) : Only S H H' := by
  unfold buildSliceV at h
  split at h
  · rename_i e _
    split at h
    · split at h
      · cases h
      · rename_i l hl
        have hids : ∀ x ∈ idsL l, x ∈ S := by
          have h1 := setParts_ids (S := S) hl (fun a ha x hx => by
            have := (List.mem_replicate.1 ha).2
            subst this
            rw [zeroAV_ids] at hx
            cases hx) hp
          exact idsL_sub h1
        split at h
        · simp only [Option.map_eq_some_iff, Prod.mk.injEq] at h
          obtain ⟨_, _, _, rfl⟩ := h
          exact Only.refl _ _
        · split at h
          · cases h
          · split at h
            · cases h
            · rename_i l2 H2 h2
              have h3 := (freezePs_only h2).mono hids
              split at h
              · simp only [Option.map_eq_some_iff, Prod.mk.injEq] at h
                obtain ⟨_, _, _, rfl⟩ := h
                exact h3
              · simp only [Option.map_eq_some_iff, Prod.mk.injEq] at h
                obtain ⟨_, _, _, rfl⟩ := h
                exact h3.trans (Only.push _ _ _)
    · cases h
  · cases h

def CfOnly (C : Ctx) (cf : Cf) : Prop := ∀ f args H v H', cf f args H = some (v, H') → Only (touchCall C f args H) H H'

theorem strike_other : ∀ {l : List Nat} {B : Heap} {x : Nat}, x ∉ l → (strike l B)[x]? = B[x]?
  | [], _, _, _ => rfl
  | o :: r, B, x, h => by
    simp only [List.mem_cons, not_or] at h
    simp only [strike]
    rw [strike_other h.2, upd, List.getElem?_set_ne (Ne.symm h.1)]

theorem putBack_other {ρ : Nat → Nat → Option (Nat × Nat)} {τ : Nat → Nat} {H : Heap} {π : List Nat} {H1 : Heap} : ∀ {l : List Nat} {k : Nat} {B : Heap} {x : Nat}, x ∉ l → (putBack ρ τ H π H1 k l B)[x]? = B[x]?
  | [], _, _, _, _ => rfl
  | o :: r, k, B, x, h => by
    simp only [List.mem_cons, not_or] at h
    simp only [putBack]
    rw [putBack_other h.2, upd, List.getElem?_set_ne (Ne.symm h.1)]

theorem enterV_only (body : Cf) : CfOnly C (enterV C body) := by
  intro f args H v H' h
  unfold enterV at h
  split at h
  · cases h
  · rename_i as lents hl
    simp only at h
    split at h
    · split at h
      · cases h
      · rename_i u H1 _
        unfold wrap at h
        simp only at h
        split at h
        · simp only [Option.some.injEq, Prod.mk.injEq] at h
          obtain ⟨_, rfl⟩ := h
          refine ⟨by simp [strike_len, putBack_len], fun x hx hn => ?_⟩
          simp only [touchCall, hl, List.mem_append, not_or] at hn
          rw [List.getElem?_append_left (by rw [strike_len, putBack_len]; exact hx), strike_other, putBack_other hn.1]
          intro hm
          obtain ⟨t, _, ht⟩ := List.mem_flatMap.1 hm
          unfold goneOf at ht
          split at ht
          · simp at ht
          · split at ht
            · rename_i y hy
              have hy' := List.mem_of_getElem? hy
              rcases List.mem_append.1 hy' with hy' | hy'
              · exact hn.2 (List.mem_flatMap.2 ⟨y, hy', ht⟩)
              · simp only [List.mem_singleton] at hy'
                subst hy'
                simp at ht
            · simp at ht
        · cases h
    · cases h

theorem callF_only : ∀ n, CfOnly C (callF C n)
  | 0 => by intro f args H v H' h; simp [callF] at h
  | n + 1 => enterV_only _

theorem step_only (hcf : CfOnly C cf) {fr : Frame} {H H' : Heap} {o : Oper} {v : AV} (h : step C cf fr H o = some (v, H')) : Only (touched C fr H o) H H' := by
  have hO : ∀ y, y ∈ o.op.operands → ∀ x ∈ ids (evalO C fr y), x ∈ idsL (opVals C fr o) := fun y hy x h => opVals_ids hy h
  have hT : ∀ t y, y ∈ o.op.operands → ∀ x ∈ ids (evalT C fr t y), x ∈ idsL (opVals C fr o) := fun t y hy x h => opVals_ids hy (evalT_ids h)
  have keep : ∀ {m : Option AV} {l : List Nat}, (m.map fun v => (v, H)) = some (v, H') → Only l H H' := by
    intro m l hm
    cases m with
    | none => cases hm
    | some y =>
      simp only [Option.map_some, Option.some.injEq, Prod.mk.injEq] at hm
      obtain ⟨_, rfl⟩ := hm
      exact Only.refl _ _
  have self : ∀ {x : AV} {l : List Nat}, some (x, H) = some (v, H') → Only l H H' := by
    intro x l hm
    simp only [Option.some.injEq, Prod.mk.injEq] at hm
    obtain ⟨_, rfl⟩ := hm
    exact Only.refl _ _
  obtain ⟨dst, op, type, pos, after, guard⟩ := o
  have parts : ∀ (t : TypeId) (ps : List (Nat × Operand)), (∀ p ∈ ps, p.2 ∈ op.operands) → ∀ p ∈ evalParts C fr t ps, ∀ x ∈ ids p.2, x ∈ idsL (opVals C fr ⟨dst, op, type, pos, after, guard⟩) := by
    intro t ps
    induction ps with
    | nil => intro _ p hp; simp [evalParts] at hp
    | cons q r ih =>
      intro hq p hp
      simp only [evalParts, List.mem_cons] at hp
      rcases hp with rfl | hp
      · exact hT t q.2 (hq q (by simp))
      · exact ih (fun z hz => hq z (by simp [hz])) p hp
  cases op <;> simp only [step] at h <;> simp only [Op.operands] at hO hT parts
  case move x => exact self h
  case assign x =>
    simp only [Option.some.injEq] at h
    unfold assignV at h
    split at h
    · simp only [Prod.mk.injEq] at h
      obtain ⟨_, rfl⟩ := h
      exact Only.push _ _ _
    · simp only [Prod.mk.injEq] at h
      obtain ⟨_, rfl⟩ := h
      exact Only.refl _ _
  case pick c x y =>
    split at h
    · exact self h
    · cases h
  case alloc t =>
    cases hb : boxOf (zeroAV C t) with
    | none => rw [hb] at h; cases h
    | some p =>
      rw [hb] at h
      simp only [newBox, Option.map_some, Option.some.injEq, Prod.mk.injEq] at h
      obtain ⟨_, rfl⟩ := h
      exact Only.push _ _ _
  case box t x =>
    cases hb : boxOf (evalT C fr t x) with
    | none => rw [hb] at h; cases h
    | some p =>
      rw [hb] at h
      simp only [Option.bind_some] at h
      split at h
      · simp only [newBox, Option.some.injEq, Prod.mk.injEq] at h
        obtain ⟨_, rfl⟩ := h
        exact Only.push _ _ _
      · cases h
  case build t ps => exact keep h
  case buildSlice t n ps =>
    refine buildSliceV_only (parts _ _ fun p hp => ?_) h
    simp only [List.mem_toArray, List.mem_map]
    exact ⟨p, hp, rfl⟩
  case load t x => exact keep h
  case store t x y =>
    cases hs : storeV C H t (evalO C fr x) (evalT C fr t y) with
    | none => rw [hs] at h; cases h
    | some H1 =>
      rw [hs] at h
      simp only [Option.map_some, Option.some.injEq, Prod.mk.injEq] at h
      obtain ⟨_, rfl⟩ := h
      refine (storeV_only hs).mono fun z hz => ?_
      simp only [touched, calledV]
      rcases List.mem_append.1 hz with hz | hz
      · exact hO x (by simp) z hz
      · exact hT t y (by simp) z hz
  case nilCheck x =>
    split at h
    · split at h
      · exact self h
      · cases h
    · exact self h
    · cases h
  case binOp => exact keep h
  case unOp => exact keep h
  case convert s d x =>
    have key : ∀ r, convV C H s d (evalT C fr s x) = r → ∀ v H', r = some (v, H') → H' = H := by
      intro r hr v H' hv
      unfold convV at hr
      repeat' (split at hr)
      all_goals (subst hr; first | (cases hv; done) | (simp only [Option.some.injEq, Prod.mk.injEq] at hv; exact hv.2.symm))
    rw [key _ h _ _ rfl]
    exact Only.refl _ _
  case makeFunc fn first caps =>
    cases fn <;> simp only at h
    case func f =>
      split at h
      · exact self h
      · cases h
    all_goals cases h
  case makeSlice t l c =>
    unfold makeSliceV at h
    repeat' (split at h)
    all_goals first
      | (cases h; done)
      | (simp only [Option.map_eq_some_iff, Prod.mk.injEq] at h
         obtain ⟨_, _, _, rfl⟩ := h
         exact Only.push _ _ _)
  case slice t x lo hi mx =>
    split at h
    · exact keep h
    · cases h
  case fieldAddr => exact keep h
  case field => exact keep h
  case indexAddr => exact keep h
  case index => exact keep h
  case extract t i =>
    split at h
    · exact keep h
    · cases h
  case call c =>
    cases hc : c.callee with
    | builtin b =>
      simp only [callV, hc] at h
      have hA : ∀ (l : List Operand) (ts : List TypeId), (∀ y ∈ l, y ∈ c.args) → ∀ a ∈ evalArgs C fr l ts, ∀ x ∈ ids a, x ∈ idsL (opVals C fr ⟨dst, .call c, type, pos, after, guard⟩) := by
        intro l
        induction l with
        | nil => intro ts _ a ha; simp [evalArgs] at ha
        | cons y r ih =>
          intro ts hl a ha x hx'
          simp only [evalArgs, List.mem_cons] at ha
          have hy : y ∈ (Call.operands c) := by
            simp only [Call.operands, hc]
            exact Array.mem_append.2 (.inr (hl y (by simp)))
          rcases ha with rfl | ha
          · cases ts with
            | nil => exact hO y hy x hx'
            | cons t ts => exact hT t y hy x hx'
          · exact ih _ (fun z hz => hl z (by simp [hz])) a ha x hx'
      have hA' := hA c.args.toList c.argTypes.toList (fun y hy => Array.mem_toList_iff.1 hy)
      simp only [touched, calledV, hc]
      generalize evalArgs C fr c.args.toList c.argTypes.toList = args at h hA'
      have keepI : ∀ {m : Option Int}, (m.map fun n => (AV.int .i64 n, H)) = some (v, H') → Only (idsL (opVals C fr ⟨dst, .call c, type, pos, after, guard⟩)) H H' := by
        intro m hm
        cases m with
        | none => cases hm
        | some y =>
          simp only [Option.map_some, Option.some.injEq, Prod.mk.injEq] at hm
          obtain ⟨_, rfl⟩ := hm
          exact Only.refl _ _
      unfold builtinV at h
      split at h
      · exact keepI h
      · exact keepI h
      · split at h
        · rename_i s x _ _
          exact (appendV_only h).mono fun z hz => hA' _ (by simp) z hz
        · cases h
      · exact keep h
      · exact keep h
      · cases h
    | value x =>
      simp only [callV, hc] at h
      split at h
      · rename_i f caps he
        split at h
        · simp only [touched, calledV, hc, he]
          exact hcf _ _ _ _ _ h
        · cases h
      · cases h
    | invoke r n => simp only [callV, hc] at h; cases h
  all_goals cases h

end

end Go.AM

/- Calls and a new object: whatever object is laid behind the heap, a call that does not see it goes on as it did. -/
namespace Go.AM

/-- the same but for the object n -/
def But (n : Nat) (H H2 : Heap) : Prop := ∀ o, o ≠ n → H2[o]? = H[o]?

theorem But.push (H : Heap) (ob : Option Obj) : But H.length H (H ++ [ob]) := by
  intro o ho
  by_cases h : o < H.length
  · rw [List.getElem?_append_left h]
  · rw [List.getElem?_eq_none (by simp; omega), List.getElem?_eq_none (by omega)]

theorem But.pop (H : Heap) (ob : Option Obj) : But H.length (H ++ [ob]) H := fun o ho => (But.push H ob o ho).symm

section
variable {n : Nat} {H H2 : Heap}

theorem reach_acc : ∀ (k : Nat) (l acc : List Nat) (x : Nat), x ∈ acc → x ∈ reach H k l acc
  | 0, _, _, _, h => h
  | k + 1, [], _, _, h => h
  | k + 1, o :: r, acc, x, h => by
    simp only [reach]
    split
    · exact reach_acc k r acc x h
    · split
      · exact reach_acc k _ _ x (by simp [h])
      · exact reach_acc k r acc x h

theorem reach_but (hb : But n H H2) : ∀ (k : Nat) (l acc : List Nat), n ∉ l → (∀ o ∈ reach H k l acc, n ∉ idsAt H o) → reach H2 k l acc = reach H k l acc
  | 0, _, _, _, _ => rfl
  | k + 1, [], _, _, _ => rfl
  | k + 1, o :: r, acc, hl, hr => by
    simp only [List.mem_cons, not_or] at hl
    simp only [reach] at hr ⊢
    split
    · rename_i hc
      rw [if_pos hc] at hr
      exact reach_but hb k r acc hl.2 hr
    · rename_i hc
      rw [if_neg hc] at hr
      rw [hb o (Ne.symm hl.1)]
      split
      · rename_i ob ho
        rw [ho] at hr
        simp only at hr
        have hm := hr o (reach_acc k _ _ o (by simp))
        simp only [idsAt, ho] at hm
        refine reach_but hb k _ _ ?_ hr
        split
        · simp only [List.mem_append, not_or]
          exact ⟨hm, hl.2⟩
        · simpa using hl.2
      · rename_i hx
        split at hr
        · rename_i ob ho
          exact absurd ho (hx ob)
        · exact reach_but hb k r acc hl.2 hr

theorem live_but (hb : But n H H2) {o g : Nat} (ho : o ≠ n) : live H2 o g = live H o g := live_congr (hb o ho) g

theorem obAt_but (hb : But n H H2) {o : Nat} (ho : o ≠ n) : obAt H2 o = obAt H o := by simp only [obAt, hb o ho]

theorem lend1_but (hb : But n H H2) {t : Nat} {a : AV} (h : n ∉ ids a) : lend1 H2 t a = lend1 H t a := by
  cases a <;> try rfl
  case sl o off len g =>
    simp only [ids, List.mem_singleton] at h
    simp only [lend1, live_but hb (Ne.symm h)]

theorem lendL_but (hb : But n H H2) {t : Nat} : ∀ {l : List AV}, n ∉ idsL l → lendL H2 t l = lendL H t l
  | [], _ => rfl
  | a :: r, h => by
    simp only [idsL, List.mem_append, not_or] at h
    simp only [lendL, lend1_but hb h.1, lendL_but hb h.2]

theorem lendV_but (hb : But n H H2) {t : Nat} {a : AV} (h : n ∉ ids a) : lendV H2 t a = lendV H t a := by
  unfold lendV
  split
  · simp only [ids] at h
    rw [lendL_but hb h]
  · simp only [ids] at h
    rw [lendL_but hb h]
  · exact lend1_but hb h

variable {C : Ctx}

theorem lendArgs_but (hb : But n H H2) {f : Nat} : ∀ {args : List AV} {i : Nat}, n ∉ idsL args → lendArgs C f H2 i args = lendArgs C f H i args
  | [], _, _ => rfl
  | a :: r, i, h => by
    simp only [idsL, List.mem_append, not_or] at h
    simp only [lendArgs, lendV_but hb h.1, lendArgs_but hb h.2]

theorem mention_but (hb : But n H H2) {f : Nat} {args : List AV} (h : n ∉ mentionCall C f args H) :
    lendArgs C f H2 0 args = lendArgs C f H 0 args ∧ touchCall C f args H2 = touchCall C f args H ∧ mentionCall C f args H2 = mentionCall C f args H ∧
    ∀ as lents, lendArgs C f H 0 args = some (as, lents) → n ∉ idsL as ∧ (∀ o ∈ reach H reachFuel (idsL as) [], o ≠ n ∧ n ∉ idsAt H o) ∧ n ∉ lents.flatMap (·.objs) ∧ reach H2 reachFuel (idsL as) [] = reach H reachFuel (idsL as) [] := by
  unfold mentionCall at h
  rw [List.mem_append, not_or] at h
  have e1 := lendArgs_but (C := C) hb (f := f) (i := 0) h.1
  cases hl : lendArgs C f H 0 args with
  | none => exact ⟨by rw [e1, hl], by simp only [touchCall, e1, hl], by simp only [mentionCall, e1, hl], fun as lents e => by cases e⟩
  | some r =>
    obtain ⟨as, lents⟩ := r
    rw [hl] at h e1
    simp only [List.mem_append, not_or] at h
    obtain ⟨_, h1, h2, h3, h4⟩ := h
    have h5 : ∀ o ∈ reach H reachFuel (idsL as) [], n ∉ idsAt H o := fun o ho hn => h4 (List.mem_flatMap.2 ⟨o, ho, hn⟩)
    have e2 := reach_but hb reachFuel (idsL as) [] h1 h5
    have e3 : (reach H reachFuel (idsL as) []).flatMap (idsAt H2) = (reach H reachFuel (idsL as) []).flatMap (idsAt H) := by
      have : ∀ (L : List Nat), n ∉ L → L.flatMap (idsAt H2) = L.flatMap (idsAt H) := by
        intro L
        induction L with
        | nil => intro _; rfl
        | cons x L ih =>
          intro hx
          simp only [List.mem_cons, not_or] at hx
          simp only [List.flatMap_cons, ih hx.2]
          simp only [idsAt, hb x (Ne.symm hx.1)]
      exact this _ h2
    refine ⟨e1, by simp only [touchCall, e1, hl, e2], by simp only [mentionCall, e1, hl, e2, e3], fun as' lents' e => ?_⟩
    simp only [Option.some.injEq, Prod.mk.injEq] at e
    obtain ⟨rfl, rfl⟩ := e
    exact ⟨h1, fun o ho => ⟨fun e => h2 (e ▸ ho), h5 o ho⟩, h3, e2⟩

mutual
theorem ren_but {ρ ρ' : Nat → Nat → Option (Nat × Nat)} {τ : Nat → Nat} (h : ∀ o g, o ≠ n → ρ' o g = ρ o g) : (v : AV) → n ∉ ids v → ren ρ' τ v = ren ρ τ v
  | .ptr o i f g, hv => by
    simp only [ids, List.mem_singleton] at hv
    simp only [ren, h o g (Ne.symm hv)]
  | .sl o a b g, hv => by
    simp only [ids, List.mem_singleton] at hv
    simp only [ren, h o g (Ne.symm hv)]
  | .map o g, hv => by
    simp only [ids, List.mem_singleton] at hv
    simp only [ren, h o g (Ne.symm hv)]
  | .agg p, hv => by simp only [ids] at hv; simp only [ren, ren_but h p hv]
  | .tup l, hv => by simp only [ids] at hv; simp only [ren, renL_but h l hv]
  | .fn f l, hv => by simp only [ids] at hv; simp only [ren, renL_but h l hv]
  | .pc l, hv => by simp only [ids] at hv; simp only [ren, renL_but h l hv]
  | .pr e l, hv => by simp only [ids] at hv; simp only [ren, renL_but h l hv]
  | .pm l, hv => by simp only [ids] at hv; simp only [ren, renL_but h l hv]
  | .top, _ => rfl
  | .bool _, _ => rfl
  | .int _ _, _ => rfl
  | .str _, _ => rfl
  | .nilptr, _ => rfl
  | .rptr .., _ => rfl
  | .ro .., _ => rfl
  | .nilfn, _ => rfl
  | .nilmap, _ => rfl
  | .pn, _ => rfl
  | .pb _, _ => rfl
  | .pi _ _, _ => rfl
theorem renL_but {ρ ρ' : Nat → Nat → Option (Nat × Nat)} {τ : Nat → Nat} (h : ∀ o g, o ≠ n → ρ' o g = ρ o g) : (l : List AV) → n ∉ idsL l → renL ρ' τ l = renL ρ τ l
  | [], _ => rfl
  | a :: r, hv => by
    simp only [idsL, List.mem_append, not_or] at hv
    simp only [renL, ren_but h a hv.1, renL_but h r hv.2]
end

end

theorem set_push {B : Heap} {ob x : Option Obj} {o : Nat} (h : o ≠ B.length) : (B ++ [ob]).set o x = B.set o x ++ [ob] := by
  rw [List.set_append]
  split
  · rfl
  · rename_i hlt
    obtain ⟨k, hk⟩ : ∃ k, o - B.length = k + 1 := ⟨o - B.length - 1, by omega⟩
    have e : B.set o x = B := List.set_eq_of_length_le (by omega)
    rw [hk, e]
    rfl

theorem strike_push {ob : Option Obj} : ∀ {l : List Nat} {B : Heap}, B.length ∉ l → strike l (B ++ [ob]) = strike l B ++ [ob]
  | [], _, _ => rfl
  | o :: r, B, h => by
    simp only [List.mem_cons, not_or] at h
    simp only [strike, upd]
    rw [set_push (Ne.symm h.1), strike_push (by simpa using h.2)]

theorem putBack_push {ρ : Nat → Nat → Option (Nat × Nat)} {τ : Nat → Nat} {H H2 : Heap} {π : List Nat} {H1 : Heap} {ob : Option Obj}
    (hg : ∀ k g, genBack H2 π k g = genBack H π k g) : ∀ {l : List Nat} {k : Nat} {B : Heap}, B.length ∉ l → putBack ρ τ H2 π H1 k l (B ++ [ob]) = putBack ρ τ H π H1 k l B ++ [ob]
  | [], _, _, _ => rfl
  | o :: r, k, B, h => by
    simp only [List.mem_cons, not_or] at h
    simp only [putBack, upd, hg]
    rw [set_push (Ne.symm h.1), putBack_push hg (by simpa using h.2)]

theorem genBack_push {H : Heap} {ob : Option Obj} {π : List Nat} (h : H.length ∉ π) (k g : Nat) : genBack (H ++ [ob]) π k g = genBack H π k g := by
  unfold genBack
  cases hk : π[k]? with
  | none => rfl
  | some o =>
    have : o ≠ H.length := fun e => h (e ▸ List.mem_of_getElem? hk)
    simp only [obAt_but (But.push H ob) this]

theorem backN_push {H : Heap} {ob : Option Obj} {π : List Nat} {H1 : Heap} (h : H.length ∉ π) : backN (H ++ [ob]) π [] H1 = backN H π [] H1 := by
  funext o g
  unfold backN
  split
  · split
    · simp only [genBack_push h]
    · rfl
  · rfl

/-- what comes back of a call that leaves nothing new -/
theorem wrap_push {H : Heap} {π : List Nat} {lents : List Lent} {v : AV} {H1 : Heap} {ob : Option Obj} (hπ : H.length ∉ π) (hl : H.length ∉ lents.flatMap (·.objs)) :
    (∀ u H', wrap H π lents v H1 = some (u, H') → H'.length = H.length → wrap (H ++ [ob]) π lents v H1 = some (u, H' ++ [ob])) ∧
    (∀ u H2, wrap (H ++ [ob]) π lents v H1 = some (u, H2) → H2.length = H.length + 1 → ∃ H', H2 = H' ++ [ob] ∧ H'.length = H.length ∧ wrap H π lents v H1 = some (u, H')) := by
  unfold wrap
  simp only
  generalize hnew : (reach H1 reachFuel (List.range π.length ++ ids v) []).filter (fun o => decide (π.length ≤ o)) = new
  have hgone : ∀ (L : List Nat), H.length ∉ L.flatMap (goneOf lents) := by
    intro L hm
    obtain ⟨t, _, ht⟩ := List.mem_flatMap.1 hm
    unfold goneOf at ht
    split at ht
    · simp at ht
    · split at ht
      · rename_i y hy
        exact hl (List.mem_flatMap.2 ⟨y, List.mem_of_getElem? hy, ht⟩)
      · simp at ht
  split
  · cases new with
    | nil =>
      have key : strike ((tags v ++ tagsObjs ((List.range π.length).map (obAt H1)) ++ tagsObjs ([].map (obAt H1))).flatMap (goneOf lents)) (putBack (backN (H ++ [ob]) π [] H1) (backT lents) (H ++ [ob]) π H1 0 π (H ++ [ob])) =
          strike ((tags v ++ tagsObjs ((List.range π.length).map (obAt H1)) ++ tagsObjs ([].map (obAt H1))).flatMap (goneOf lents)) (putBack (backN H π [] H1) (backT lents) H π H1 0 π H) ++ [ob] := by
        rw [backN_push hπ, putBack_push (genBack_push hπ) hπ, strike_push]
        rw [putBack_len]
        exact hgone _
      constructor
      · intro u H' h _
        simp only [Option.some.injEq, Prod.mk.injEq, List.map_nil, List.append_nil] at h ⊢
        obtain ⟨rfl, rfl⟩ := h
        simp only [List.map_nil] at key
        exact ⟨by rw [backN_push hπ], key⟩
      · intro u H2 h _
        simp only [Option.some.injEq, Prod.mk.injEq, List.map_nil, List.append_nil] at h ⊢
        simp only [List.map_nil] at key
        obtain ⟨rfl, rfl⟩ := h
        exact ⟨_, key, by rw [strike_len, putBack_len], by rw [backN_push hπ], rfl⟩
    | cons x r =>
      constructor
      · intro u H' h hlen
        simp only [Option.some.injEq, Prod.mk.injEq] at h
        obtain ⟨_, rfl⟩ := h
        simp [strike_len, putBack_len] at hlen
      · intro u H2 h hlen
        simp only [Option.some.injEq, Prod.mk.injEq] at h
        obtain ⟨_, rfl⟩ := h
        simp [strike_len, putBack_len] at hlen
  · exact ⟨fun u H' h => by simp at h, fun u H2 h => by simp at h⟩

section
variable {C : Ctx}

/-- a call that makes nothing new does not mind an object that it does not see -/
def CfPush (C : Ctx) (cf : Cf) : Prop := ∀ f args H v H', cf f args H = some (v, H') → H'.length = H.length →
  (∀ ob, H.length ∉ mentionCall C f args H → cf f args (H ++ [ob]) = some (v, H' ++ [ob])) ∧
  (∀ H0 ob, H = H0 ++ [ob] → H0.length ∉ mentionCall C f args H → ∃ H0', H' = H0' ++ [ob] ∧ H0'.length = H0.length ∧ cf f args H0 = some (v, H0'))

/-- a call, up to what comes back of it -/
theorem enterV_but (body : Cf) {n : Nat} {H H2 : Heap} (hb : But n H H2) {f : Nat} {args : List AV} (h : n ∉ mentionCall C f args H) {r : AV × Heap} (hr : enterV C body f args H = some r) :
    ∃ π lents v H1, wrap H π lents v H1 = some r ∧ n ∉ π ∧ n ∉ lents.flatMap (·.objs) ∧ enterV C body f args H2 = wrap H2 π lents v H1 := by
  obtain ⟨e1, _, _, h4⟩ := mention_but (C := C) hb h
  unfold enterV at hr ⊢
  rw [e1]
  split at hr
  · cases hr
  · rename_i as lents hl
    obtain ⟨h5, h6, h7, h8⟩ := h4 as lents hl
    simp only at hr ⊢
    rw [h8]
    generalize hπ : reach H reachFuel (idsL as) [] = π at hr h6 ⊢
    have hnπ : n ∉ π := fun hm => (h6 n hm).1 rfl
    have hin : ∀ o g, o ≠ n → intoN H2 π o g = intoN H π o g := fun o g ho => by simp only [intoN, live_but hb ho]
    have hat : ∀ o ∈ π, obAt H2 o = obAt H o := fun o ho => obAt_but hb (h6 o ho).1
    have e3 : π.map (obAt H2) = π.map (obAt H) := List.map_congr_left hat
    have e4 : (π.map fun o => (obAt H2 o).map (renObj (intoN H2 π) (fun _ => as.length + 1) 0)) = π.map fun o => (obAt H o).map (renObj (intoN H π) (fun _ => as.length + 1) 0) := by
      refine List.map_congr_left fun o ho => ?_
      rw [hat o ho]
      cases hx : obAt H o with
      | none => rfl
      | some ob =>
        have hids : n ∉ ids ob.p := by
          have := (h6 o ho).2
          unfold idsAt at this
          unfold obAt at hx
          cases hy : H[o]? with
          | none => rw [hy] at hx; cases hx
          | some z =>
            rw [hy] at hx this
            simp only [Option.getD_some] at hx
            subst hx
            exact this
        simp only [Option.map_some, renObj, ren_but hin ob.p hids]
    rw [e3, e4, renL_but hin as h5]
    split at hr
    · rename_i hc
      rw [if_pos hc]
      split at hr
      · cases hr
      · rename_i v H1 hbd
        refine ⟨π, _, v, H1, hr, hnπ, ?_, rfl⟩
        simpa using h7
    · cases hr

theorem enterV_push (body : Cf) : CfPush C (enterV C body) := by
  intro f args H v H' h hlen
  constructor
  · intro ob hn
    obtain ⟨π, lents, u, H1, h1, h2, h3, h4⟩ := enterV_but (C := C) body (But.push H ob) hn h
    rw [h4]
    exact (wrap_push h2 h3).1 v H' h1 hlen
  · intro H0 ob he hn
    subst he
    obtain ⟨π, lents, u, H1, h1, h2, h3, h4⟩ := enterV_but (C := C) body (But.pop H0 ob) hn h
    rw [h4]
    exact (wrap_push h2 h3).2 v H' h1 (by simpa using hlen)

theorem callF_push : ∀ n, CfPush C (callF C n)
  | 0 => by intro f args H v H' h; simp [callF] at h
  | n + 1 => enterV_push _

def CfTouch (C : Ctx) (cf : Cf) : Prop := CfOnly C cf ∧ CfPush C cf

theorem callF_touch (n : Nat) : CfTouch C (callF C n) := ⟨callF_only n, callF_push n⟩

end

end Go.AM

/- Running: a call of a function value, a region in its order, what is left of the state behind it. -/
namespace Go.AM

/-- where a body's run stands: since it began at K0, with m objects -/
def Now (C : Ctx) (T : Nat → Nat → Prop) (m : Nat) (K0 : Kx) (nt : Nat) (fr : Frame) (H : Heap) (a : Act) (w : World) : Prop :=
  ∃ μ, Inv C ⟨μ, H, w⟩ T ∧ Evo T m K0 ⟨μ, H, w⟩ ∧ FRel ⟨μ, H, w⟩ T fr a.tmps ∧ nt ≤ a.tmps.size ∧ a.defers = []

section
variable {C : Ctx} {T : Nat → Nat → Prop} {m nt : Nat} {K0 : Kx} {fr : Frame} {H : Heap} {a : Act} {w : World}

theorem put_size (a : Act) (d : Option Nat) (v : Value) : (a.put d v).tmps.size = a.tmps.size := by
  cases d <;> simp [Act.put]

theorem put_defers (a : Act) (d : Option Nat) (v : Value) : (a.put d v).defers = a.defers := by
  cases d <;> rfl

theorem Now.put {μ μ' : Nat → Pl} {H' : Heap} {w' : World} {x : AV} {v : Value} {d : Option Nat} (hE0 : Evo T m K0 ⟨μ, H, w⟩) (hf : FRel ⟨μ, H, w⟩ T fr a.tmps) (hn : nt ≤ a.tmps.size) (hd : a.defers = [])
    (hI : Inv C ⟨μ', H', w'⟩ T) (hE : Evo T H.length ⟨μ, H, w⟩ ⟨μ', H', w'⟩) (hv : VRel ⟨μ', H', w'⟩ T x v) (hdst : dstOk nt d = true) :
    Now C T m K0 nt (putF fr d x) H' (a.put d v) w' := by
  refine ⟨μ', hI, hE0.trans hE hE0.len, FRel.put (FRel.evo hE (Nat.le_refl _) hf) hv (fun i hi => ?_), by rw [put_size]; exact hn, by rw [put_defers]; exact hd⟩
  subst hi
  simp only [dstOk, decide_eq_true_eq] at hdst
  omega

theorem undef_rel (K : Kx) (T : Nat → Nat → Prop) : VRel K T (.tup []) undef := by
  simp only [VRel, undef]
  exact ⟨#[], rfl, rfl, by simp⟩

theorem wanted_ok {ops : Array Oper} {o : Oper} {d : Bool} {K : Kx} (hf : FRel K T fr a.tmps) (h : wantedV ops fr o = some d) : Region.wanted o (yielded ops a.tmps) = d := by
  unfold wantedV at h
  unfold Region.wanted
  cases hg : o.guard with
  | none =>
    rw [hg] at h
    simp only [Option.some.injEq] at h
    exact h
  | some x =>
    obtain ⟨j, want⟩ := x
    rw [hg] at h
    simp only at h ⊢
    unfold yielded
    cases hd : (ops[j]?).bind (·.dst) with
    | none => rw [hd] at h; cases h
    | some t =>
      rw [hd] at h
      simp only [Option.bind_some] at h ⊢
      have hv := hf t
      rw [Array.getD_eq_getD_getElem?] at hv
      split at h
      · rename_i b hb
        simp only [Option.some.injEq] at h
        subst h
        rw [hb] at hv
        simp only [VRel, V1Rel, SRel, RV] at hv
        cases ht : a.tmps[t]? with
        | none => rw [ht] at hv; simp [undef] at hv
        | some v =>
          rw [ht] at hv
          simp only [Option.getD_some] at hv
          subst hv
          simp only
          cases b <;> cases want <;> rfl
      · rename_i hb
        simp only [Option.some.injEq] at h
        subst h
        rw [hb] at hv
        simp only [VRel] at hv
        obtain ⟨vs, h1, _, _⟩ := hv
        cases ht : a.tmps[t]? with
        | none => simp
        | some v =>
          rw [ht] at h1
          simp only [Option.getD_some] at h1
          subst h1
          simp
      · cases h

theorem run_callFunc {P : Program} {f : FuncId} {fn : Func} (hF : P.funcs[f]? = some fn) (hname : (fn.name == "runtime.NumGoroutine") = false) (hb : fn.body.isNone = false) (args : Array Value) (w : World) :
    (callFunc f args).run P w = .ok (.enter f args) w := by
  simp only [callFunc, Sem.run_bind, run_program, Result.andThen_ok, hF, hname, hb, Bool.false_eq_true, if_false]
  rfl

/-- a step's outcome, and what may follow -/
theorem step_upon {cf : Cf} (hcf : CfOk C cf) {P : Program} (hP : P = C.P) {o : Oper} {x : AV} {H' : Heap} (h : step C cf fr H o = some (x, H')) (hN : Now C T m K0 nt fr H a w) (hdst : dstOk nt o.dst = true)
    {next : Act → World → Prop} {Q : Exit → Act → World → Prop} (hnext : ∀ v w', Now C T m K0 nt (putF fr o.dst x) H' (a.put o.dst v) w' → next (a.put o.dst v) w') :
    o.wp P a w next Q := by
  subst hP
  obtain ⟨μ, hI, hE0, hf, hn, hd⟩ := hN
  unfold Oper.wp
  by_cases hfn : isFn o.op = true
  · obtain ⟨dst, op, type, pos, after, guard⟩ := o
    cases op <;> simp only [isFn, Bool.false_eq_true] at hfn
    case call c =>
      have hce : ∃ fx, c.callee = .value fx := by
        cases hc : c.callee <;> rw [hc] at hfn <;> simp at hfn
        exact ⟨_, rfl⟩
      obtain ⟨fx, hce⟩ := hce
      simp only [step, callV, hce] at h
      split at h
      · rename_i f caps hev
        split at h
        · rename_i hbod
          have hfv := evalO_v hI hf fx
          rw [hev] at hfv
          simp only [VRel, V1Rel] at hfv
          obtain ⟨vs, hvs, hlen, hcap⟩ := hfv
          have hargs : ArgsRel ⟨μ, H, w⟩ T (evalArgs C fr c.args.toList (paramsOf C f) ++ caps) ((c.args.map a.eval) ++ vs).toList := by
            have h1 := evalArgs_rel hI hf c.args.toList (paramsOf C f)
            have h2 : ∀ (l : List AV) (us : List Value) , us.length = l.length → (∀ (j : Nat) (a : AV), l[j]? = some a → ∃ u, us[j]? = some u ∧ SRel ⟨μ, H, w⟩ T a u) → ArgsRel ⟨μ, H, w⟩ T l us := by
              intro l
              induction l with
              | nil => intro us hl _; cases us with
                | nil => trivial
                | cons => simp at hl
              | cons b r ih =>
                intro us hl hj
                cases us with
                | nil => simp at hl
                | cons u us =>
                  refine ⟨?_, ih us (by simpa using hl) (fun j c hc => by simpa using hj (j + 1) c (by simpa using hc))⟩
                  obtain ⟨u', h3, h4⟩ := hj 0 b rfl
                  simp only [List.getElem?_cons_zero, Option.some.injEq] at h3
                  subst h3
                  exact (V1Rel.s h4).v
            have h3 : ∀ (l : List AV) (us : List Value) (l' : List AV) (us' : List Value), ArgsRel ⟨μ, H, w⟩ T l us → ArgsRel ⟨μ, H, w⟩ T l' us' → ArgsRel ⟨μ, H, w⟩ T (l ++ l') (us ++ us') := by
              intro l
              induction l with
              | nil => intro us l' us' h h'; rw [h.nil]; exact h'
              | cons b r ih =>
                intro us l' us' h h'
                obtain ⟨v, s, rfl, h4, h5⟩ := h.cons
                exact ⟨h4, ih s l' us' h5 h'⟩
            rw [Array.toList_append, Array.toList_map]
            exact h3 _ _ _ _ h1 (h2 _ _ (by simpa using hlen) (fun j b hb => by obtain ⟨u, h4, h5⟩ := hcap j b hb; exact ⟨u, by simpa using h4, h5⟩))
          have hcalls := hcf f _ H x H' h ⟨μ, H, w⟩ T _ rfl hI hargs
          have hrun : (execOp a.eval ⟨dst, .call c, type, pos, after, guard⟩).run C.P w = .ok (.enter f ((c.args.map a.eval) ++ vs)) w := by
            unfold bodied at hbod
            cases hF : C.P.funcs[f]? with
            | none => rw [hF] at hbod; simp at hbod
            | some fn =>
              rw [hF] at hbod
              simp only [Option.map_some, Option.getD_some, Bool.and_eq_true, bne_iff_ne, ne_eq] at hbod
              have hb1 : fn.body.isNone = false := by
                cases hb : fn.body with
                | none => rw [hb] at hbod; simp at hbod
                | some => rfl
              have hname : (fn.name == "runtime.NumGoroutine") = false := by simpa using hbod.2
              simp only [execOp, resolve, hce, hvs, Deferred.ofValue, Sem.run_bind, Sem.run_pure, Result.andThen_ok, invoke, Array.empty_append]
              exact run_callFunc hF hname hb1 _ _
          rw [hrun, Oper.upon_enter]
          refine Calls.mono hcalls fun e w' he => ?_
          cases e with
          | returned v =>
            obtain ⟨μ', h1, h2, h3⟩ := he
            exact hnext v w' (Now.put hE0 hf hn hd h1 h2 h3 hdst)
          | panicked => exact he.elim
          | outgrown => exact he.elim
        · cases h
      · cases h
  · have hr := step_ok hI hf (by simpa using hfn) h
    simp only at hr
    revert hr
    generalize (execOp a.eval o).run C.P w = r
    intro hr
    unfold Res at hr
    split at hr
    · obtain ⟨μ', h1, h2, h3⟩ := hr
      rw [Oper.upon_value]
      exact hnext _ _ (Now.put hE0 hf hn hd h1 h2 h3 hdst)
    · obtain ⟨μ', h1, h2, h3⟩ := hr
      rw [Oper.upon_skip]
      exact hnext _ _ (Now.put hE0 hf hn hd h1 h2 h3 hdst)
    · exact hr.elim

theorem skip_now {d : Option Nat} (hN : Now C T m K0 nt fr H a w) (hdst : dstOk nt d = true) : Now C T m K0 nt (putF fr d (.tup [])) H (a.put d undef) w := by
  obtain ⟨μ, hI, hE0, hf, hn, hd⟩ := hN
  exact Now.put hE0 hf hn hd hI (Evo.refl T _ (Nat.le_refl _)) (undef_rel _ _) hdst

theorem runOps_ok {cf : Cf} (hcf : CfOk C cf) {ops : Array Oper} {Q : Exit → Act → World → Prop} : ∀ (l : List Oper) (i : Nat) {fr : Frame} {H : Heap} {a : Act} {w : World} {fr' : Frame} {H' : Heap}, ops.toList.drop i = l →
    runOps C cf nt ops l fr H = some (fr', H') → Now C T m K0 nt fr H a w → (∀ a' w', Now C T m K0 nt fr' H' a' w' → Q .normal a' w') → wpOps C.P ops Q (List.range' i l.length) a w
  | [], i, fr, H, a, w, fr', H', hl, h, hN, hQ => by
    simp only [runOps, Option.some.injEq, Prod.mk.injEq] at h
    obtain ⟨rfl, rfl⟩ := h
    exact hQ a w hN
  | o :: r, i, fr, H, a, w, fr', H', hl, h, hN, hQ => by
    have hi : ops[i]? = some o := by
      rw [← Array.getElem?_toList]
      have : (ops.toList.drop i)[0]? = some o := by rw [hl]; rfl
      simpa using this
    have hl' : ops.toList.drop (i + 1) = r := by
      have := congrArg List.tail hl
      simpa [List.tail_drop] using this
    simp only [List.length_cons, List.range'_succ]
    rw [wpOps_cons]
    unfold wpOp
    rw [hi]
    simp only
    simp only [runOps] at h
    split at h
    · rename_i hdst
      split at h
      · rename_i hw
        obtain ⟨μ, hI, hE0, hf, hn, hd⟩ := id hN
        rw [wanted_ok hf hw]
        simp only [if_true]
        split at h
        · rename_i v H1 hs
          left
          exact step_upon hcf rfl hs hN hdst fun u w' hN' => runOps_ok hcf r (i + 1) hl' h hN' hQ
        · cases h
      · rename_i hw
        obtain ⟨μ, hI, hE0, hf, hn, hd⟩ := id hN
        rw [wanted_ok hf hw]
        simp only [Bool.false_eq_true, if_false]
        exact runOps_ok hcf r (i + 1) hl' h (skip_now hN hdst) hQ
      · cases h
    · cases h

end

end Go.AM

/- What cannot be reached goes; frames cut. -/
namespace Go.AM

theorem getF_ren (ρ : Nat → Nat → Option (Nat × Nat)) (τ : Nat → Nat) : ∀ (fr : Frame) (i : Nat), getF (renF ρ τ fr) i = ren ρ τ (getF fr i)
  | [], i => rfl
  | (j, v) :: r, i => by
    simp only [renF, getF]
    split
    · rfl
    · exact getF_ren ρ τ r i

theorem getF_keep (fr : Frame) : ∀ (l : List Nat) (i : Nat), getF (keepF l fr) i = getF fr i ∨ getF (keepF l fr) i = .top
  | [], i => .inr rfl
  | j :: r, i => by
    have := getF_keep fr r i
    simp only [keepF, List.map_cons, getF]
    split
    · rename_i h; subst h; exact .inl rfl
    · exact this

section
variable {C : Ctx} {T : Nat → Nat → Prop} {m nt : Nat} {K0 : Kx} {fr : Frame} {H : Heap} {a : Act} {w : World}

theorem Now.keep (h : Now C T m K0 nt fr H a w) (l : List Nat) : Now C T m K0 nt (keepF l fr) H a w := by
  obtain ⟨μ, hI, hE, hf, hn, hd⟩ := h
  refine ⟨μ, hI, hE, fun i => ?_, hn, hd⟩
  rcases getF_keep fr l i with h | h <;> rw [h]
  · exact hf i
  · exact VRel.top _ _ _

def nrho (m : Nat) (new : List Nat) (H : Heap) (o g : Nat) : Option (Nat × Nat) :=
  match live H o g with
  | some _ => if o < m then some (o, g) else (idxOf new o m).map fun k => (k, 0)
  | none => none

def nat' (ρ : Nat → Nat → Option (Nat × Nat)) (H : Heap) (o : Nat) (g : Nat → Nat) : Option Obj :=
  match H[o]? with | some (some ob) => some (renObj ρ id (g ob.g) ob) | _ => none

def nheap (ρ : Nat → Nat → Option (Nat × Nat)) (m : Nat) (new : List Nat) (H : Heap) : Heap :=
  (List.range m).map (fun o => nat' ρ H o id) ++ new.map (fun o => nat' ρ H o (fun _ => 0))

def nμ (m : Nat) (new : List Nat) (μ : Nat → Pl) (o : Nat) : Pl := if o < m then μ o else μ (new.getD (o - m) 0)

theorem nat'_some {ρ : Nat → Nat → Option (Nat × Nat)} {H : Heap} {o : Nat} {g : Nat → Nat} {ob' : Obj} (h : nat' ρ H o g = some ob') : ∃ ob, H[o]? = some (some ob) ∧ ob' = renObj ρ id (g ob.g) ob := by
  unfold nat' at h
  split at h
  · rename_i ob hob
    simp only [Option.some.injEq] at h
    exact ⟨ob, hob, h.symm⟩
  · cases h

theorem nheap_len {ρ : Nat → Nat → Option (Nat × Nat)} {new : List Nat} : (nheap ρ m new H).length = m + new.length := by simp [nheap]

theorem nheap_get {ρ : Nat → Nat → Option (Nat × Nat)} {new : List Nat} {μ : Nat → Pl} {o : Nat} {ob' : Obj} (h : (nheap ρ m new H)[o]? = some (some ob')) :
    (o < m ∧ ∃ ob, H[o]? = some (some ob) ∧ ob' = renObj ρ id ob.g ob ∧ nμ m new μ o = μ o) ∨
    ∃ j k ob, o = m + j ∧ new[j]? = some k ∧ H[k]? = some (some ob) ∧ ob' = renObj ρ id 0 ob ∧ nμ m new μ o = μ k := by
  unfold nheap at h
  by_cases hlt : o < m
  · left
    rw [List.getElem?_append_left (by simpa using hlt), List.getElem?_map, List.getElem?_range hlt] at h
    simp only [Option.map_some, Option.some.injEq] at h
    obtain ⟨ob, h1, h2⟩ := nat'_some h
    exact ⟨hlt, ob, h1, h2, by simp [nμ, hlt]⟩
  · right
    rw [List.getElem?_append_right (by simp; omega), List.length_map, List.length_range, List.getElem?_map] at h
    cases hk : new[o - m]? with
    | none => rw [hk] at h; cases h
    | some k =>
      rw [hk] at h
      simp only [Option.map_some, Option.some.injEq] at h
      obtain ⟨ob, h1, h2⟩ := nat'_some h
      exact ⟨o - m, k, ob, by omega, hk, h1, h2, by simp [nμ, hlt, List.getD_eq_getElem?_getD, hk]⟩

theorem norm_own {ρ : Nat → Nat → Option (Nat × Nat)} {new : List Nat} {μ : Nat → Pl} {b : Nat} (h : Own ⟨nμ m new μ, nheap ρ m new H, w⟩ b) : Own ⟨μ, H, w⟩ b := by
  obtain ⟨o, ob', h1, h2, h3⟩ := h
  rcases nheap_get (μ := μ) h1 with ⟨_, ob, g1, rfl, g3⟩ | ⟨j, k, ob, _, _, g1, rfl, g3⟩
  · simp only [g3] at h2 h3
    exact ⟨o, ob, g1, (Real.same (same_ren _ _ _ ob)).1 h2, h3⟩
  · simp only [g3] at h2 h3
    exact ⟨k, ob, g1, (Real.same (same_ren _ _ _ ob)).1 h2, h3⟩

theorem norm_ren {new : List Nat} {μ : Nat → Pl} : Ren (nrho m new H) id ⟨μ, H, w⟩ ⟨nμ m new μ, nheap (nrho m new H) m new H, w⟩ T T (fun _ => True) where
  w := rfl
  h := by
    intro o g o' g' h
    unfold nrho at h
    split at h
    · rename_i ob hob
      obtain ⟨ho, hg⟩ := live_iff.1 hob
      split at h
      · rename_i hlt
        simp only [Option.some.injEq, Prod.mk.injEq] at h
        obtain ⟨rfl, rfl⟩ := h
        refine ⟨by simp only; rw [nheap_len]; omega, ob, hob, fun ob' h => ?_⟩
        rcases nheap_get (μ := μ) h with ⟨_, ob1, g1, rfl, g3⟩ | ⟨j, k, ob, g, _⟩
        · rw [ho] at g1
          simp only [Option.some.injEq] at g1
          subst g1
          simp only [renObj, hg, Nat.le_refl, true_and]
          exact fun _ => ⟨g3, same_ren _ _ 0 ob⟩
        · omega
      · rename_i hlt
        cases hi : idxOf new o m with
        | none => rw [hi] at h; cases h
        | some k =>
          rw [hi] at h
          simp only [Option.map_some, Option.some.injEq, Prod.mk.injEq] at h
          obtain ⟨rfl, rfl⟩ := h
          obtain ⟨h1, h2⟩ := idxOf_some hi
          have h3 := (List.getElem?_eq_some_iff.1 h2).1
          refine ⟨by simp only; rw [nheap_len]; omega, ob, hob, fun ob' h => ?_⟩
          rcases nheap_get (μ := μ) h with ⟨q, _⟩ | ⟨j, k', ob1, q, q2, g1, rfl, g3⟩
          · omega
          · have : j = k - m := by omega
            subst this
            rw [h2] at q2
            simp only [Option.some.injEq] at q2
            subst q2
            rw [ho] at g1
            simp only [Option.some.injEq] at g1
            subst g1
            exact ⟨Nat.zero_le _, fun _ => ⟨g3, same_ren _ _ 0 ob⟩⟩
    · cases h
  t := fun t _ b hb => ⟨hb.1, fun h => hb.2.1 (norm_own h), hb.2.2⟩

theorem Now.norm (h : Now C T m K0 nt fr H a w) : Now C T m K0 nt (normSt m fr H).1 (normSt m fr H).2 a w := by
  obtain ⟨μ, hI, hE, hf, hn, hd⟩ := h
  obtain ⟨hnd, hlive⟩ := reach_ok H reachFuel (List.range m ++ idsF fr) [] List.nodup_nil (by simp)
  have e : normSt m fr H = (renF (nrho m ((reach H reachFuel (List.range m ++ idsF fr) []).filter fun o => m ≤ o) H) id fr,
      nheap (nrho m ((reach H reachFuel (List.range m ++ idsF fr) []).filter fun o => m ≤ o) H) m ((reach H reachFuel (List.range m ++ idsF fr) []).filter fun o => m ≤ o) H) := rfl
  rw [e]
  generalize hnew : ((reach H reachFuel (List.range m ++ idsF fr) []).filter fun o => decide (m ≤ o)) = new
  have hnn : new.Nodup := by rw [← hnew]; exact hnd.filter _
  have hge : ∀ k ∈ new, m ≤ k := fun k hk => by rw [← hnew] at hk; simpa using (List.mem_filter.1 hk).2
  have hR := norm_ren (T := T) (m := m) (H := H) (w := w) (new := new) (μ := μ)
  have hlen : m ≤ H.length := hE.len
  refine ⟨nμ m new μ, ?_, ?_, fun i => ?_, hn, hd⟩
  · constructor
    · intro o ob' h
      rcases nheap_get (μ := μ) h with ⟨_, ob, g1, rfl, g3⟩ | ⟨j, k, ob, _, _, g1, rfl, g3⟩
      · exact ObjOk.ren hR (fun _ _ => trivial) g3 (hI.obj o ob g1)
      · exact ObjOk.ren hR (fun _ _ => trivial) g3 (hI.obj k ob g1)
    · intro o o' ob ob' h h' hr hr' hb
      rcases nheap_get (μ := μ) h with ⟨l1, ob1, g1, rfl, g3⟩ | ⟨j, k, ob1, l1, q, g1, rfl, g3⟩ <;>
      rcases nheap_get (μ := μ) h' with ⟨l1', ob1', g1', rfl, g3'⟩ | ⟨j', k', ob1', l1', q', g1', rfl, g3'⟩ <;>
      simp only [g3, g3'] at hr hr' hb <;>
      have := hI.inj _ _ ob1 ob1' g1 g1' ((Real.same (same_ren _ _ _ _)).1 hr) ((Real.same (same_ren _ _ _ _)).1 hr') hb
      · exact this
      · have := hge k' (List.mem_of_getElem? q')
        omega
      · have := hge k (List.mem_of_getElem? q)
        omega
      · subst this
        have e1 := List.getElem?_eq_some_iff.1 q
        have e2 := List.getElem?_eq_some_iff.1 q'
        have : j = j' := (List.getElem_inj hnn).1 (e1.2.trans e2.2.symm)
        omega
    · exact fun b h => hI.own b (norm_own h)
    · exact hI.new
    · exact hI.mono
    · intro g p hg
      obtain ⟨h1, h2, h3⟩ := hI.glob g p hg
      have hnt : ∀ b, NT ⟨μ, H, w⟩ T gtag b → NT ⟨nμ m new μ, nheap (nrho m new H) m new H, w⟩ T gtag b := fun b hb => ⟨hb.1, fun h => hb.2.1 (norm_own h), hb.2.2⟩
      exact ⟨h1, hnt _ h2, RP_mono (fun b hb => ⟨hnt b hb, fun _ _ h => h⟩) p _ _ (fun _ _ h => h) h3⟩
  · refine ⟨hE.lo, by simp only; rw [nheap_len]; omega, hE.size, hE.os, hE.tape, hE.output, fun o ho ob' h => ?_, fun b hb h => hE.own b hb (norm_own h), hE.cells, hE.exact⟩
    rcases nheap_get (μ := μ) h with ⟨_, ob, g1, rfl, g3⟩ | ⟨j, k, ob, l1, _⟩
    · obtain ⟨ob0, h1, h2, h3⟩ := hE.obj o ho ob g1
      refine ⟨ob0, h1, h2, fun e => ?_⟩
      obtain ⟨h4, h5⟩ := h3 e
      exact ⟨g3.trans h4, h5.trans (same_ren _ _ _ ob)⟩
    · omega
  · rw [getF_ren]
    exact VRel.ren hR (fun _ _ => trivial) (hf i)

theorem Now.after (h : Now C T m K0 nt fr H a w) (f id : Nat) : (afterRegion C f m id fr H).ex = .normal ∧ Now C T m K0 nt (afterRegion C f m id fr H).fr (afterRegion C f m id fr H).H a w := by
  have hk : Now C T m K0 nt (match C.keep f id with | some l => keepF l fr | none => fr) H a w := by
    split
    · exact h.keep _
    · exact h
  unfold afterRegion
  simp only
  split
  · exact ⟨rfl, hk.norm⟩
  · exact ⟨rfl, hk⟩

end

end Go.AM
