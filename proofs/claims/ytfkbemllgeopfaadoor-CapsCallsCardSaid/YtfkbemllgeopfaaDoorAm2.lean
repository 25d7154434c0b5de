/- The abstract machine, part 2: a deterministic evaluator for the program's code and the proof that what it tells is so. Conditions: none beyond the theorems' own. -/
import Derived.Calls
import Derived.Orders
import Derived.Test.YtfkbemllgeopfaaDoorAm1
set_option linter.unusedSimpArgs false
set_option linter.unusedVariables false
/- Names and tags turned. -/
namespace Go.AM

theorem renL_map (ρ : Nat → Nat → Option (Nat × Nat)) (τ : Nat → Nat) : ∀ l, renL ρ τ l = l.map (ren ρ τ)
 | [] => rfl
 | a :: r => by simp [renL, renL_map ρ τ r]

theorem renL_len (ρ : Nat → Nat → Option (Nat × Nat)) (τ : Nat → Nat) (l : List AV) : (renL ρ τ l).length = l.length := by simp [renL_map]

theorem plen_ren (ρ : Nat → Nat → Option (Nat × Nat)) (τ : Nat → Nat) (p : AV) : plen (ren ρ τ p) = plen p := by
 cases p
 case ptr o i f g => simp only [ren]; rcases ρ o g with _ | ⟨a, b⟩ <;> rfl
 case sl o i f g => simp only [ren]; rcases ρ o g with _ | ⟨a, b⟩ <;> rfl
 case map o g => simp only [ren]; rcases ρ o g with _ | ⟨a, b⟩ <;> rfl
 all_goals simp only [ren, plen, renL_len]

theorem pesz_ren (ρ : Nat → Nat → Option (Nat × Nat)) (τ : Nat → Nat) (p : AV) : pesz (ren ρ τ p) = pesz p := by
 cases p
 case ptr o i f g => simp only [ren]; rcases ρ o g with _ | ⟨a, b⟩ <;> rfl
 case sl o i f g => simp only [ren]; rcases ρ o g with _ | ⟨a, b⟩ <;> rfl
 case map o g => simp only [ren]; rcases ρ o g with _ | ⟨a, b⟩ <;> rfl
 all_goals simp only [ren, pesz]

theorem isPm_ren (ρ : Nat → Nat → Option (Nat × Nat)) (τ : Nat → Nat) (p : AV) : isPm (ren ρ τ p) = isPm p := by
 cases p
 case ptr o i f g => simp only [ren]; rcases ρ o g with _ | ⟨a, b⟩ <;> rfl
 case sl o i f g => simp only [ren]; rcases ρ o g with _ | ⟨a, b⟩ <;> rfl
 case map o g => simp only [ren]; rcases ρ o g with _ | ⟨a, b⟩ <;> rfl
 all_goals simp only [ren, isPm]

/-- what turning names asks: the world is the same -/
structure Ren (ρ : Nat → Nat → Option (Nat × Nat)) (τ : Nat → Nat) (K K' : Kx) (T T' : Nat → Nat → Prop) (ok : Nat → Prop) : Prop where
 w : K'.w = K.w
 h : ∀ o g o' g', ρ o g = some (o', g') → o' < K'.H.length ∧ ∃ ob, live K.H o g = some ob ∧ ∀ ob', K'.H[o']? = some (some ob') → g' ≤ ob'.g ∧ (ob'.g = g' → K'.μ o' = K.μ o ∧ Same ob ob')
 t : ∀ t, ok t → ∀ b, NT K T t b → NT K' T' (τ t) b

section
variable {ρ : Nat → Nat → Option (Nat × Nat)} {τ : Nat → Nat} {K K' : Kx} {T T' : Nat → Nat → Prop} {ok : Nat → Prop}

mutual
/-- a payload without names: only the tags in it turn -/
theorem RV_ren {w : World} {N : Nat → Prop} (ρ : Nat → Nat → Option (Nat × Nat)) (τ : Nat → Nat) : (a : AV) → (v : Value) → RV w N a v → RV w N (ren ρ τ a) v
 | .top, _, _ => trivial
 | .bool _, v, hv => by simpa [ren, RV] using hv
 | .int _ _, v, hv => by simpa [ren, RV] using hv
 | .str _, v, hv => by simpa [ren, RV] using hv
 | .nilptr, v, hv => by simpa [ren, RV] using hv
 | .nilfn, v, hv => by simpa [ren, RV] using hv
 | .nilmap, v, hv => by simpa [ren, RV] using hv
 | .ro c p t, v, hv => by simpa [ren, RV] using hv
 | .ptr .., v, hv => by simp [RV] at hv
 | .rptr .., v, hv => by simp [RV] at hv
 | .sl .., v, hv => by simp [RV] at hv
 | .agg .., v, hv => by simp [RV] at hv
 | .tup .., v, hv => by simp [RV] at hv
 | .fn .., v, hv => by simp [RV] at hv
 | .map .., v, hv => by simp [RV] at hv
 | .pn, v, hv => by simp [RV] at hv
 | .pb .., v, hv => by simp [RV] at hv
 | .pi .., v, hv => by simp [RV] at hv
 | .pc .., v, hv => by simp [RV] at hv
 | .pr .., v, hv => by simp [RV] at hv
 | .pm .., v, hv => by simp [RV] at hv
end

theorem GP_ren {S S' : AV → Value → Prop} {p : AV} {r : Nat → Option Value} (h : ∀ a v, (∀ t ∈ tags a, t ∈ tags p) → S a v → S' (ren ρ τ a) v) (hp : GP S p r) : GP S' (ren ρ τ p) r := by
 cases p <;> simp only [GP, ren] at hp ⊢ <;> try exact hp
 case pc l =>
  intro j a ha
  rw [renL_map, List.getElem?_map] at ha
  cases hb : l[j]? with
  | none => rw [hb] at ha; cases ha
  | some b =>
   rw [hb] at ha
   simp only [Option.map_some, Option.some.injEq] at ha
   subst ha
   obtain ⟨v, h1, h2, h3⟩ := hp j b hb
   exact ⟨v, h1, h2, h b v (fun t ht => by simp only [tags]; exact tagsL_mem (List.mem_of_getElem? hb) t ht) h3⟩
 case pr e l =>
  refine ⟨hp.1, fun j a ha => ?_⟩
  rw [renL_map, List.getElem?_map] at ha
  cases hb : l[j]? with
  | none => rw [hb] at ha; cases ha
  | some b =>
   rw [hb] at ha
   simp only [Option.map_some, Option.some.injEq] at ha
   subst ha
   obtain ⟨cs, rfl, h1, h2⟩ := hp.2 j b hb
   refine ⟨renL ρ τ cs, by simp [ren], by rw [renL_len, h1], fun k a ha => ?_⟩
   rw [renL_map, List.getElem?_map] at ha
   cases hc : cs[k]? with
   | none => rw [hc] at ha; cases ha
   | some c =>
    rw [hc] at ha
    simp only [Option.map_some, Option.some.injEq] at ha
    subst ha
    obtain ⟨v, h3, h4, h5⟩ := h2 k c hc
    exact ⟨v, h3, h4, h c v (fun t ht => by
     simp only [tags]
     exact tagsL_mem (List.mem_of_getElem? hb) t (by simp only [tags]; exact tagsL_mem (List.mem_of_getElem? hc) t ht)) h5⟩

theorem SRel.ren (R : Ren ρ τ K K' T T' ok) {a : AV} {v : Value} (ht : ∀ t ∈ tags a, ok t) (h : SRel K T a v) : SRel K' T' (ren ρ τ a) v := by
 cases a
 case ptr o i f g =>
  simp only [SRel] at h
  rcases hρ : ρ o g with _ | ⟨o', g'⟩
  ·simp only [Go.AM.ren, hρ, SRel, RV]
  ·simp only [Go.AM.ren, hρ]
   obtain ⟨h1, ob, h2, h3⟩ := R.h o g o' g' hρ
   obtain ⟨ho, hg⟩ := live_iff.1 h2
   simp only [SRel]
   refine ⟨h1, h.2.1, fun ob' hob' => ⟨(h3 ob' hob').1, fun e => ?_⟩⟩
   obtain ⟨h4, h5⟩ := (h3 ob' hob').2 e
   obtain ⟨h6, h7⟩ := (h.2.2 ob ho).2 hg
   rw [h4, h5.1, h5.2.2.2]
   exact ⟨h6, h7⟩
 case sl o off len g =>
  simp only [SRel] at h
  rcases hρ : ρ o g with _ | ⟨o', g'⟩
  ·simp only [Go.AM.ren, hρ, SRel, RV]
  ·simp only [Go.AM.ren, hρ]
   obtain ⟨h1, ob, h2, h3⟩ := R.h o g o' g' hρ
   obtain ⟨ho, hg⟩ := live_iff.1 h2
   simp only [SRel]
   refine ⟨h1, h.2.1, fun ob' hob' => ⟨(h3 ob' hob').1, fun e => ?_⟩⟩
   obtain ⟨h4, h5⟩ := (h3 ob' hob').2 e
   have := (h.2.2 ob ho).2 hg
   unfold SlOk at this ⊢
   rw [h4, h5.1, h5.2.1, h5.2.2.1, h5.2.2.2]
   exact this
 case map o g =>
  simp only [SRel] at h
  rcases hρ : ρ o g with _ | ⟨o', g'⟩
  ·simp only [Go.AM.ren, hρ, SRel, RV]
  ·simp only [Go.AM.ren, hρ]
   obtain ⟨h1, ob, h2, h3⟩ := R.h o g o' g' hρ
   obtain ⟨ho, hg⟩ := live_iff.1 h2
   simp only [SRel]
   refine ⟨h1, h.2.1, fun ob' hob' => ⟨(h3 ob' hob').1, fun e => ?_⟩⟩
   obtain ⟨h4, h5⟩ := (h3 ob' hob').2 e
   obtain ⟨h6, h7⟩ := (h.2.2 ob ho).2 hg
   rw [h4, h5.2.2.2]
   exact ⟨h6, h7⟩
 case ro c p t =>
  simp only [SRel, Go.AM.ren] at h ⊢
  rw [R.w]
  have := RV_mono (w := K.w) (w' := K.w) (fun b hb => ⟨R.t t (ht t (by simp [tags])) b hb, fun _ _ h => h⟩) _ _ h
  simpa [RV] using this
 all_goals
  simp only [SRel] at h
  have := RV_ren (w := K.w) ρ τ _ _ h
  simp only [Go.AM.ren] at this ⊢
  simp only [SRel]
  rw [R.w]
  exact this

theorem PRel.ren (R : Ren ρ τ K K' T T' ok) {p : AV} {r : Nat → Option Value} (ht : ∀ t ∈ tags p, ok t) (h : PRel K T p r) : PRel K' T' (ren ρ τ p) r :=
 GP_ren (fun _ _ hs h => SRel.ren R (fun t h' => ht t (hs t h')) h) h

theorem cellsLen_ren (ρ : Nat → Nat → Option (Nat × Nat)) (τ : Nat → Nat) (p : AV) : cellsLen (ren ρ τ p) = cellsLen p := by
 unfold cellsLen; rw [plen_ren, pesz_ren]

theorem V1Rel.s {K : Kx} {T : Nat → Nat → Prop} {a : AV} {v : Value} (h : SRel K T a v) : V1Rel K T a v := by
 cases a <;> simp only [V1Rel] <;> first | exact h | (simp [SRel, RV] at h; done)

theorem V1Rel.ren (R : Ren ρ τ K K' T T' ok) {a : AV} {v : Value} (ht : ∀ t ∈ tags a, ok t) (h : V1Rel K T a v) : V1Rel K' T' (ren ρ τ a) v := by
 cases a
 case agg p =>
  simp only [V1Rel, Go.AM.ren] at h ⊢
  obtain ⟨cs, h1, h2, h3⟩ := h
  exact ⟨cs, h1, by rw [cellsLen_ren]; exact h2, PRel.ren R ht h3⟩
 case fn f l =>
  simp only [V1Rel, Go.AM.ren] at h ⊢
  obtain ⟨vs, h1, h2, h3⟩ := h
  refine ⟨vs, h1, by rw [renL_len]; exact h2, fun j a ha => ?_⟩
  rw [renL_map, List.getElem?_map] at ha
  cases hb : l[j]? with
  | none => rw [hb] at ha; cases ha
  | some b =>
   rw [hb] at ha
   simp only [Option.map_some, Option.some.injEq] at ha
   subst ha
   obtain ⟨u, h4, h5⟩ := h3 j b hb
   exact ⟨u, h4, SRel.ren R (fun t h' => ht t (by simp only [tags]; exact tagsL_mem (List.mem_of_getElem? hb) t h')) h5⟩
 case rptr p i f t =>
  simp only [V1Rel, Go.AM.ren] at h ⊢
  obtain ⟨b, off, h1, h2, h3, h4⟩ := h
  have hn := fun b hb => R.t t (ht t (by simp [tags])) b hb
  exact ⟨b, off, h1, h2, hn b h3, by rw [R.w]; exact RP_mono (fun b hb => ⟨hn b hb, fun _ _ h => h⟩) p _ _ (fun _ _ h => h) h4⟩
 all_goals exact V1Rel.s (SRel.ren R ht h)

theorem VRel.ren (R : Ren ρ τ K K' T T' ok) {a : AV} {v : Value} (ht : ∀ t ∈ tags a, ok t) (h : VRel K T a v) : VRel K' T' (ren ρ τ a) v := by
 by_cases hn : noTup a = true
 ·have h1 : V1Rel K T a v := by cases a <;> first | exact h | (simp [noTup] at hn; done)
  exact (V1Rel.ren R ht h1).v
 ·cases a <;> simp [noTup] at hn
  case tup l =>
   simp only [VRel, Go.AM.ren] at h ⊢
   obtain ⟨vs, h1, h2, h3⟩ := h
   refine ⟨vs, h1, by rw [renL_len]; exact h2, fun j a ha => ?_⟩
   rw [renL_map, List.getElem?_map] at ha
   cases hb : l[j]? with
   | none => rw [hb] at ha; cases ha
   | some b =>
    rw [hb] at ha
    simp only [Option.map_some, Option.some.injEq] at ha
    subst ha
    obtain ⟨u, h4, h5⟩ := h3 j b hb
    exact ⟨u, h4, V1Rel.ren R (fun t h' => ht t (by simp only [tags]; exact tagsL_mem (List.mem_of_getElem? hb) t h')) h5⟩

theorem V1Rel.renN (R : Ren ρ τ K K' T T' ok) {a : AV} {v : Value} (ht : ∀ t ∈ tagN1 a, ok t) (h : V1Rel K T a v) : V1Rel K' T' (Go.AM.ren ρ τ a) v := by
 cases a
 case ro c p t =>
  by_cases hp : plen p = 0
  ·simp only [V1Rel, SRel, RV, Go.AM.ren] at h ⊢
   obtain ⟨ad, cap, h1, h2, h3⟩ := h
   exact ⟨ad, cap, h1, h2, fun _ _ hn => absurd hp hn⟩
  ·exact V1Rel.ren R (fun t' h' => ht t' (by simpa [tagN1, hp, tags] using h')) h
 all_goals exact V1Rel.ren R ht h

theorem VRel.renN (R : Ren ρ τ K K' T T' ok) {a : AV} {v : Value} (ht : ∀ t ∈ tagsN a, ok t) (h : VRel K T a v) : VRel K' T' (Go.AM.ren ρ τ a) v := by
 by_cases hn : noTup a = true
 ·have h1 : V1Rel K T a v := by cases a <;> first | exact h | (simp [noTup] at hn; done)
  exact (V1Rel.renN R (by cases a <;> first | exact ht | (simp [noTup] at hn; done)) h1).v
 ·cases a <;> simp [noTup] at hn
  case tup l =>
   simp only [VRel, Go.AM.ren] at h ⊢
   obtain ⟨vs, h1, h2, h3⟩ := h
   refine ⟨vs, h1, by rw [renL_len]; exact h2, fun j a ha => ?_⟩
   rw [renL_map, List.getElem?_map] at ha
   cases hb : l[j]? with
   | none => rw [hb] at ha; cases ha
   | some b =>
    rw [hb] at ha
    simp only [Option.map_some, Option.some.injEq] at ha
    subst ha
    obtain ⟨u, h4, h5⟩ := h3 j b hb
    exact ⟨u, h4, V1Rel.renN R (fun t h' => ht t (by simp only [tagsN]; exact List.mem_flatMap.2 ⟨b, List.mem_of_getElem? hb, h'⟩)) h5⟩

theorem same_ren (ρ : Nat → Nat → Option (Nat × Nat)) (τ : Nat → Nat) (g : Nat) (ob : Obj) : Same ob (renObj ρ τ g ob) :=
 ⟨pesz_ren ρ τ ob.p, plen_ren ρ τ ob.p, rfl, isPm_ren ρ τ ob.p⟩

theorem RV_free {w : World} {N N' : Nat → Prop} {a : AV} {v : Value} (h : tags a = []) (hv : RV w N a v) : RV w N' a v := by
 cases a <;> first | (simp [tags] at h; done) | exact hv | (simp [RV] at hv; done) | (simpa [RV] using hv)

theorem tagsObN_sub {ob : Obj} {t : Nat} (h : t ∈ tagsObN ob) : t ∈ tagsOb ob := by
 unfold tagsObN at h
 split at h
 ·cases h
 ·exact h

theorem PayOk.ren (R : Ren ρ τ K K' T T' ok) {ob : Obj} {r : Nat → Option Value} {g : Nat} (ht : ∀ t ∈ tagsObN ob, ok t) (h : PayOk K T ob r) : PayOk K' T' (renObj ρ τ g ob) r := by
 have e : (renObj ρ τ g ob).ids = ob.ids := rfl
 have e2 : (renObj ρ τ g ob).p = Go.AM.ren ρ τ ob.p := rfl
 have e3 : (renObj ρ τ g ob).tg = τ ob.tg := rfl
 unfold PayOk at h ⊢
 unfold tagsObN tagsOb at ht
 by_cases hi : ob.ids = true
 ·rw [if_pos hi] at h ht
  rw [if_neg (by simp [hi])] at ht
  rw [e, if_pos hi, e2]
  exact PRel.ren R ht h
 ·rw [if_neg hi] at h ht
  rw [e, if_neg hi, e2, e3]
  by_cases hf : tags ob.p = []
  ·rw [R.w]
   refine RP_GP.2 (GP_ren (fun a v hs hv => ?_) (RP_GP.1 h))
   have ha : tags a = [] := List.eq_nil_iff_forall_not_mem.2 fun t h' => by have := hs t h'; rw [hf] at this; cases this
   exact RV_ren ρ τ a v (RV_free ha hv)
  rw [if_neg (by simp [hf])] at ht
  have hn := fun b hb => R.t ob.tg (ht _ (by simp)) b hb
  rw [R.w]
  refine RP_GP.2 (GP_ren (fun a v _ hv => ?_) (RP_GP.1 h))
  exact RV_ren ρ τ a v (RV_mono (fun b hb => ⟨hn b hb, fun _ _ h => h⟩) a v hv)

theorem KRel.ren {k : AV} {v : Value} (h : KRel k v) : KRel (Go.AM.ren ρ τ k) v := by
 unfold KRel at h
 split at h <;> simp_all [Go.AM.ren, KRel]

theorem ObjOk.ren (R : Ren ρ τ K K' T T' ok) {k o : Nat} {ob : Obj} {g : Nat} (ht : ∀ t ∈ tagsObN ob, ok t) (hμ : K'.μ o = K.μ k) (h : ObjOk K T k ob) : ObjOk K' T' o (renObj ρ τ g ob) := by
 by_cases hpm : isPm ob.p = true
 ·cases hp : ob.p <;> rw [hp] at hpm <;> simp only [isPm, Bool.false_eq_true] at hpm
  case pm l =>
   have hl : ∀ t ∈ tagsL l, ok t := by
    intro t h'
    refine ht t ?_
    unfold tagsObN tagsOb
    rw [hp]
    rw [if_neg (by
     intro h0
     simp only [Bool.and_eq_true, List.isEmpty_iff, tags] at h0
     rw [h0.2] at h'
     cases h')]
    split
    ·simpa [tags] using h'
    ·simp [h']
   unfold ObjOk at h ⊢
   simp only [renObj, hp, Go.AM.ren] at h ⊢
   rw [hμ, R.w]
   obtain ⟨es, clock, h1, h2, h3, h4⟩ := h
   refine ⟨es, clock, h1, by rw [renL_len]; exact h2, by rw [renL_len]; exact h3, fun i a ha => ?_⟩
   rw [renL_map, List.getElem?_map] at ha
   cases hb : l[i]? with
   | none => rw [hb] at ha; cases ha
   | some b =>
    rw [hb] at ha
    simp only [Option.map_some, Option.some.injEq] at ha
    subst ha
    obtain ⟨k, v, e, rfl, h6, h7, h8, h9⟩ := h4 i b hb
    refine ⟨Go.AM.ren ρ τ k, Go.AM.ren ρ τ v, e, by simp [Go.AM.ren, renL], h6, h7, KRel.ren h8, V1Rel.ren R (fun t h' => hl t (tagsL_mem (List.mem_of_getElem? hb) t ?_)) h9⟩
    simp [tags, tagsL, h']
 ·have hpm' : isPm ob.p = false := by simpa using hpm
  have hpm2 : isPm (renObj ρ τ g ob).p = false := by simp only [renObj]; rw [isPm_ren]; exact hpm'
  obtain ⟨h1, h2⟩ := h.open hpm'
  have hS := same_ren ρ τ g ob
  have : ShapeOk (K'.μ o) (renObj ρ τ g ob) ∧ CellsOk K' T' (K'.μ o) (renObj ρ τ g ob) := by
   rw [hμ]
   refine ⟨?_, fun hc => ?_⟩
   ·unfold ShapeOk at h1 ⊢
    rw [hS.2.1, hS.2.2.1]
    exact h1
   ·obtain ⟨cur, E, h3, h4, h5, h6⟩ := h2 hc
    exact ⟨cur, E, by rw [R.w]; exact h3, by rw [hS.1]; exact h4, by rw [hS.1]; exact h5, PayOk.ren R ht h6⟩
  unfold ObjOk
  split
  ·rename_i heq; rw [heq] at hpm2; simp [isPm] at hpm2
  ·exact this

end

theorem reach_ok (H : Heap) : ∀ (n : Nat) (l acc : List Nat), acc.Nodup → (∀ o ∈ acc, ∃ ob, H[o]? = some (some ob)) → (reach H n l acc).Nodup ∧ ∀ o ∈ reach H n l acc, ∃ ob, H[o]? = some (some ob)
 | 0, _, acc, h1, h2 => by simpa [reach] using ⟨h1, h2⟩
 | n + 1, [], acc, h1, h2 => by simpa [reach] using ⟨h1, h2⟩
 | n + 1, o :: r, acc, h1, h2 => by
  unfold reach
  split
  ·exact reach_ok H n r acc h1 h2
  ·rename_i hc
   split
   ·rename_i ob hob
    refine reach_ok H n _ _ ?_ ?_
    ·rw [List.nodup_append]
     refine ⟨h1, by simp, fun a ha b hb => ?_⟩
     simp only [List.mem_singleton] at hb
     subst hb
     rintro rfl
     exact hc (by simpa using ha)
    ·intro x hx
     rcases List.mem_append.1 hx with hx | hx
     ·exact h2 x hx
     ·simp only [List.mem_singleton] at hx
      subst hx
      exact ⟨ob, hob⟩
   ·exact reach_ok H n r acc h1 h2

end Go.AM

/- A call: into the callee. -/
namespace Go.AM

def BlkOf (K : Kx) (o b : Nat) : Prop := ∃ ob, K.H[o]? = some (some ob) ∧ Real ob (K.μ o) ∧ (K.μ o).blk = b

theorem BlkOf.own {K : Kx} {o b : Nat} (h : BlkOf K o b) : Own K b := let ⟨ob, h1, h2, h3⟩ := h; ⟨o, ob, h1, h2, h3⟩

theorem BlkOf.inj {C : Ctx} {K : Kx} {T : Nat → Nat → Prop} (hI : Inv C K T) {o o' b : Nat} (h : BlkOf K o b) (h' : BlkOf K o' b) : o = o' := by
 obtain ⟨ob, h1, h2, h3⟩ := h
 obtain ⟨ob', h4, h5, h6⟩ := h'
 exact hI.inj o o' ob ob' h1 h4 h2 h5 (h3.trans h6.symm)

/-- the tags of the callee -/
def Tc (K : Kx) (T : Nat → Nat → Prop) (π : List Nat) (ls : List Lent) (t b : Nat) : Prop :=
 K.w.heap.size ≤ b ∨ (∃ o ∈ π, BlkOf K o b) ∨ (t = gtag ∧ NT K T gtag b) ∨
 ∃ i x, t = i + 1 ∧ ls[i]? = some x ∧ ((∃ o ∈ x.objs, BlkOf K o b) ∨ ∃ t' ∈ x.tags, NT K T t' b)

/-- the state that the callee meets -/
def intoK (K : Kx) (π : List Nat) (t : Nat) : Kx := ⟨fun k => K.μ (π.getD k 0), π.map (fun o => (obAt K.H o).map (renObj (intoN K.H π) (fun _ => t) 0)), K.w⟩

theorem idxOf_some : ∀ {l : List Nat} {o i k : Nat}, idxOf l o i = some k → i ≤ k ∧ l[k - i]? = some o
 | [], o, i, k, h => by simp [idxOf] at h
 | a :: r, o, i, k, h => by
  unfold idxOf at h
  split at h
  ·rename_i ha
   simp only [Option.some.injEq] at h
   subst h; subst ha
   simp
  ·obtain ⟨h1, h2⟩ := idxOf_some h
   refine ⟨by omega, ?_⟩
   rw [show k - i = (k - (i + 1)) + 1 by omega]
   simpa using h2

theorem obAt_some {H : Heap} {o : Nat} {ob : Obj} : obAt H o = some ob ↔ H[o]? = some (some ob) := by
 unfold obAt
 cases h : H[o]? with
 | none => simp
 | some x => simp

theorem tagsObjs_mem {ob : Obj} : ∀ {l : List (Option Obj)}, some ob ∈ l → ∀ t ∈ tagsOb ob, t ∈ tagsObjs l
 | [], h, _, _ => by simp at h
 | none :: r, h, t, ht => by
  have : some ob ∈ r := by simpa using h
  simpa [tagsObjs] using tagsObjs_mem this t ht
 | some a :: r, h, t, ht => by
  simp only [List.mem_cons, Option.some.injEq] at h
  rcases h with rfl | h
  ·simp [tagsObjs, ht]
  ·simp [tagsObjs, tagsObjs_mem h t ht]

theorem tagsObjsN_mem {ob : Obj} : ∀ {l : List (Option Obj)}, some ob ∈ l → ∀ t ∈ tagsObN ob, t ∈ tagsObjsN l
 | [], h, _, _ => by simp at h
 | none :: r, h, t, ht => by
  have : some ob ∈ r := by simpa using h
  simpa [tagsObjsN] using tagsObjsN_mem this t ht
 | some a :: r, h, t, ht => by
  simp only [List.mem_cons, Option.some.injEq] at h
  rcases h with rfl | h
  ·simp [tagsObjsN, ht]
  ·simp [tagsObjsN, tagsObjsN_mem h t ht]

theorem tagsObjsN_sub {t : Nat} : ∀ {l : List (Option Obj)}, t ∈ tagsObjsN l → t ∈ tagsObjs l
 | [], h => by cases h
 | none :: r, h => by
  simp only [tagsObjsN] at h
  simp only [tagsObjs]
  exact tagsObjsN_sub h
 | some ob :: r, h => by
  simp only [tagsObjsN, List.mem_append] at h
  simp only [tagsObjs, List.mem_append]
  exact h.imp tagsObN_sub tagsObjsN_sub

theorem tagN1_sub {a : AV} {t : Nat} (h : t ∈ tagN1 a) : t ∈ tags a := by
 cases a <;> try exact h
 case ro c p t' =>
  simp only [tagN1] at h
  split at h
  ·cases h
  ·simpa [tags] using h
theorem tagsN_sub {a : AV} {t : Nat} (h : t ∈ tagsN a) : t ∈ tags a := by
 cases a <;> try exact tagN1_sub h
 case tup l =>
  obtain ⟨b, hb, ht⟩ := List.mem_flatMap.1 h
  simp only [tags]
  obtain ⟨j, hj⟩ := List.getElem?_of_mem hb
  exact tagsL_mem hb t (tagN1_sub ht)

section
variable {C : Ctx} {K : Kx} {T : Nat → Nat → Prop} {π : List Nat} {ls : List Lent} {n : Nat}

theorem intoK_get {k : Nat} {ob' : Obj} (h : (intoK K π n).H[k]? = some (some ob')) :
  ∃ o ob, π[k]? = some o ∧ K.H[o]? = some (some ob) ∧ ob' = renObj (intoN K.H π) (fun _ => n) 0 ob ∧ (intoK K π n).μ k = K.μ o := by
 simp only [intoK, List.getElem?_map] at h
 cases ho : π[k]? with
 | none => rw [ho] at h; cases h
 | some o =>
  rw [ho] at h
  simp only [Option.map_some, Option.some.injEq] at h
  cases hob : obAt K.H o with
  | none => rw [hob] at h; cases h
  | some ob =>
   rw [hob] at h
   simp only [Option.map_some, Option.some.injEq] at h
   exact ⟨o, ob, rfl, obAt_some.1 hob, h.symm, by simp [intoK, ho]⟩

theorem Real.same {ob ob' : Obj} {m : Pl} (hs : Same ob ob') : Real ob' m ↔ Real ob m := by
 unfold Real
 rw [hs.2.2.2]

theorem intoK_own {b : Nat} : Own (intoK K π n) b → ∃ o ∈ π, BlkOf K o b := by
 rintro ⟨k, ob', h1, h2, h3⟩
 obtain ⟨o, ob, g1, g2, g3, g4⟩ := intoK_get h1
 subst g3
 rw [g4] at h2 h3
 exact ⟨o, List.mem_of_getElem? g1, ob, g2, (Real.same (same_ren _ _ _ ob)).1 h2, h3⟩

theorem intoK_nt (hI : Inv C K T) {t' t b : Nat} (h : NT K T t' b) (ht : Tc K T π ls t b) : NT (intoK K π n) (Tc K T π ls) t b :=
 ⟨ht, fun ho => let ⟨_, _, h1⟩ := intoK_own ho; h.2.1 h1.own, h.2.2⟩

theorem intoK_ren (hI : Inv C K T) (τ : Nat → Nat) (ok : Nat → Prop) (hok : ∀ t, ok t → ∀ b, NT K T t b → Tc K T π ls (τ t) b) : Ren (intoN K.H π) τ K (intoK K π n) T (Tc K T π ls) ok where
 w := rfl
 h := by
  intro o g o' g' h
  unfold intoN at h
  split at h
  ·rename_i ob hob
   cases hi : idxOf π o 0 with
   | none => rw [hi] at h; cases h
   | some k =>
    rw [hi] at h
    simp only [Option.map_some, Option.some.injEq, Prod.mk.injEq] at h
    obtain ⟨rfl, rfl⟩ := h
    obtain ⟨_, h1⟩ := idxOf_some hi
    rw [Nat.sub_zero] at h1
    refine ⟨by have := (List.getElem?_eq_some_iff.1 h1).1; simpa [intoK] using this, ob, hob, fun ob' hob' => ⟨Nat.zero_le _, fun _ => ?_⟩⟩
    obtain ⟨o2, ob2, g1, g2, g3, g4⟩ := intoK_get hob'
    rw [h1] at g1
    simp only [Option.some.injEq] at g1
    subst g1
    rw [(live_iff.1 hob).1] at g2
    simp only [Option.some.injEq] at g2
    subst g2; subst g3
    exact ⟨g4, same_ren _ _ _ ob⟩
  ·cases h
 t := fun t ht b hb => intoK_nt hI hb (hok t ht b hb)

theorem intoK_inv (hI : Inv C K T) (hnd : π.Nodup) (hn : n + 1 < gtag) (hother : ls[n]? = some ⟨[], tagsObjs (π.map (obAt K.H))⟩) : Inv C (intoK K π (n + 1)) (Tc K T π ls) where
 obj := by
  intro k ob' h
  obtain ⟨o, ob, g1, g2, g3, g4⟩ := intoK_get h
  subst g3
  have hmem : ∀ t ∈ tagsObN ob, t ∈ tagsObjs (π.map (obAt K.H)) := by
   intro t ht
   exact tagsObjs_mem (List.mem_map.2 ⟨o, List.mem_of_getElem? g1, obAt_some.2 g2⟩) t (tagsObN_sub ht)
  exact ObjOk.ren (intoK_ren (n := n + 1) hI (fun _ => n + 1) (fun t => t ∈ tagsObjs (π.map (obAt K.H))) (fun t ht b hb => .inr (.inr (.inr ⟨n, _, rfl, hother, .inr ⟨t, ht, hb⟩⟩)))) hmem g4 (hI.obj o ob g2)
 inj := by
  intro k k' ob ob' h h' hr hr' hb
  obtain ⟨o, ob1, g1, g2, g3, g4⟩ := intoK_get h
  obtain ⟨o', ob1', g1', g2', g3', g4'⟩ := intoK_get h'
  subst g3; subst g3'
  rw [g4] at hr hb
  rw [g4'] at hr' hb
  have := hI.inj o o' ob1 ob1' g2 g2' ((Real.same (same_ren _ _ _ _)).1 hr) ((Real.same (same_ren _ _ _ _)).1 hr') hb
  subst this
  have e1 := List.getElem?_eq_some_iff.1 g1
  have e2 := List.getElem?_eq_some_iff.1 g1'
  exact (List.getElem_inj hnd).1 (e1.2.trans e2.2.symm)
 own := by
  intro b hb
  obtain ⟨o, ho, h⟩ := intoK_own hb
  exact ⟨(hI.own b h.own).1, .inr (.inl ⟨o, ho, h⟩)⟩
 new := fun b hb => .inl hb
 mono := by
  rintro t b (h | h | ⟨h, _⟩ | ⟨i, x, h, _⟩)
  ·exact .inl h
  ·exact .inr (.inl h)
  ·simp [gtag] at h
  ·omega
 glob := by
  intro g p hg
  obtain ⟨h1, h2, h3⟩ := hI.glob g p hg
  have hnt : ∀ b, NT K T gtag b → NT (intoK K π (n + 1)) (Tc K T π ls) gtag b := fun b hb => intoK_nt hI hb (.inr (.inr (.inl ⟨rfl, hb⟩)))
  exact ⟨h1, hnt _ h2, RP_mono (fun b hb => ⟨hnt b hb, fun _ _ h => h⟩) p _ _ (fun _ _ h => h) h3⟩

end

end Go.AM

/- A call: the arguments lent. -/
namespace Go.AM

/-- what is lent is among the i-th's -/
def Cv (ls : List Lent) (i : Nat) (y : Lent) : Prop := ∃ x, ls[i]? = some x ∧ (∀ o ∈ y.objs, o ∈ x.objs) ∧ ∀ t ∈ y.tags, t ∈ x.tags

def Off (π : List Nat) (y : Lent) : Prop := ∀ o ∈ y.objs, o ∉ π

section
variable {C : Ctx} {K : Kx} {T : Nat → Nat → Prop} {π : List Nat} {ls : List Lent} {n i : Nat}

theorem lent_tag (hI : Inv C K T) {y : Lent} (hc : Cv ls i y) {t' b : Nat} (ht : t' ∈ y.tags) (h : NT K T t' b) : NT (intoK K π n) (Tc K T π ls) (i + 1) b := by
 obtain ⟨x, h1, _, h3⟩ := hc
 exact intoK_nt hI h (.inr (.inr (.inr ⟨i, x, rfl, h1, .inr ⟨t', h3 _ ht, h⟩⟩)))

theorem lent_obj (hI : Inv C K T) {y : Lent} (hc : Cv ls i y) (hd : Off π y) {o b : Nat} (ho : o ∈ y.objs) (h : BlkOf K o b) : NT (intoK K π n) (Tc K T π ls) (i + 1) b := by
 obtain ⟨x, h1, h2, _⟩ := hc
 refine ⟨.inr (.inr (.inr ⟨i, x, rfl, h1, .inl ⟨o, h2 _ ho, h⟩⟩)), fun hO => ?_, (hI.own _ h.own).1⟩
 obtain ⟨o', h3, h4⟩ := intoK_own hO
 exact hd o ho (by rw [BlkOf.inj hI h h4]; exact h3)

/-- without tags: only named anew -/
theorem into_v (hI : Inv C K T) {a : AV} {v : Value} (h : VRel K T a v) (ht : tags a = []) : VRel (intoK K π n) (Tc K T π ls) (ren (intoN K.H π) (fun t => t) a) v :=
 VRel.ren (intoK_ren (n := n) hI (fun t => t) (fun _ => False) (fun _ h => h.elim)) (by simp [ht]) h

theorem into_s (hI : Inv C K T) {a : AV} {v : Value} (h : SRel K T a v) (ht : tags a = []) : SRel (intoK K π n) (Tc K T π ls) (ren (intoN K.H π) (fun t => t) a) v :=
 SRel.ren (intoK_ren (n := n) hI (fun t => t) (fun _ => False) (fun _ h => h.elim)) (by simp [ht]) h

theorem lend1_sl {H : Heap} {t o off len g : Nat} {a' : AV} {y : Lent} (h : lend1 H t (.sl o off len g) = some (a', y)) :
  ∃ ob p, live H o g = some ob ∧ ¬ ob.ids = true ∧ psub ob.p off len = some p ∧ a' = .ro (if ob.z = 0 ∧ plen ob.p = 0 then 0 else 2) p t ∧ y = ⟨[o], [ob.tg]⟩ := by
 simp only [lend1] at h
 split at h
 ·rename_i ob hob
  split at h
  ·cases h
  ·rename_i hids
   cases hp : psub ob.p off len with
   | none => rw [hp] at h; cases h
   | some p =>
    rw [hp] at h
    simp only [Option.map_some, Option.some.injEq, Prod.mk.injEq] at h
    exact ⟨ob, p, hob, hids, hp, h.1.symm, h.2.symm⟩
 ·cases h

theorem lend1_s (hI : Inv C K T) {a a' : AV} {v : Value} {y : Lent} (hv : SRel K T a v) (h : lend1 K.H (i + 1) a = some (a', y)) (hc : Cv ls i y) (hd : Off π y) :
  SRel (intoK K π n) (Tc K T π ls) (ren (intoN K.H π) (fun t => t) a') v := by
 unfold lend1 at h
 split at h
 ·rename_i o off len g
  obtain ⟨ob, p, h1, h2, h3, rfl, rfl⟩ := lend1_sl (H := K.H) (t := i + 1) (by unfold lend1; exact h)
  obtain ⟨h4, h5⟩ := live_iff.1 h1
  simp only [SRel] at hv
  obtain ⟨ad, cap, rfl, h6, h7⟩ := SlOk.ro hI h1 h2 ((hv.2.2 ob h4).2 h5) h3
  simp only [ren, SRel, RV]
  refine ⟨ad, cap, rfl, h6, fun a ha hn => ?_⟩
  obtain ⟨h8, h9, h10, h11⟩ := h7 a ha hn
  exact ⟨h8, lent_obj hI hc hd (o := o) (by simp) ⟨ob, h4, h10, h9.symm⟩, RP_mono (w' := K.w) (fun b hb => ⟨lent_tag hI hc (by simp) hb, fun _ _ h => h⟩) _ _ _ (fun _ _ h => h) h11⟩
 ·simp only [Option.some.injEq, Prod.mk.injEq] at h
  obtain ⟨rfl, rfl⟩ := h
  simp only [ren, SRel] at hv ⊢
  rename_i c p t'
  have := RV_mono (w' := K.w) (N' := NT (intoK K π n) (Tc K T π ls) (i + 1)) (fun b hb => ⟨lent_tag hI hc (t' := t') (by simp) hb, fun _ _ h => h⟩) _ _ hv
  rw [RV] at this ⊢
  exact this
 ·simp only [SRel, RV] at hv
 ·split at h
  ·rename_i ht
   simp only [Option.some.injEq, Prod.mk.injEq] at h
   obtain ⟨rfl, rfl⟩ := h
   exact into_s hI hv (by simpa using ht)
  ·cases h

theorem lend1_v1 (hI : Inv C K T) {a a' : AV} {v : Value} {y : Lent} (hv : V1Rel K T a v) (hn : noTup a = true) (h : lend1 K.H (i + 1) a = some (a', y)) (hc : Cv ls i y) (hd : Off π y) :
  VRel (intoK K π n) (Tc K T π ls) (ren (intoN K.H π) (fun t => t) a') v := by
 cases a
 case rptr p j f t' =>
  simp only [lend1, Option.some.injEq, Prod.mk.injEq] at h
  obtain ⟨rfl, rfl⟩ := h
  simp only [ren, VRel, V1Rel] at hv ⊢
  obtain ⟨b, off, h1, h2, h3, h4⟩ := hv
  have hm := fun b (hb : NT K T t' b) => lent_tag (π := π) (n := n) hI hc (t' := t') (by simp) hb
  exact ⟨b, off, h1, h2, hm b h3, RP_mono (w' := K.w) (fun b hb => ⟨hm b hb, fun _ _ h => h⟩) p _ _ (fun _ _ h => h) h4⟩
 case agg p =>
  simp only [lend1] at h
  split at h
  ·rename_i ht
   simp only [Option.some.injEq, Prod.mk.injEq] at h
   obtain ⟨rfl, rfl⟩ := h
   exact into_v hI (V1Rel.v hv) (by simpa using ht)
  ·cases h
 case fn f l =>
  simp only [lend1] at h
  split at h
  ·rename_i ht
   simp only [Option.some.injEq, Prod.mk.injEq] at h
   obtain ⟨rfl, rfl⟩ := h
   exact into_v hI (V1Rel.v hv) (by simpa using ht)
  ·cases h
 case tup l => simp [noTup] at hn
 all_goals
  have hs := lend1_s (n := n) hI (by simpa [V1Rel] using hv) h hc hd
  have h1 := V1Rel.s hs
  exact V1Rel.v h1

theorem lendL_get {H : Heap} {t : Nat} : ∀ {l l' : List AV} {y : Lent}, lendL H t l = some (l', y) → l'.length = l.length ∧
  ∀ (j : Nat) (a' : AV), l'[j]? = some a' → ∃ a x, l[j]? = some a ∧ lend1 H t a = some (a', x) ∧ (∀ o ∈ x.objs, o ∈ y.objs) ∧ ∀ t ∈ x.tags, t ∈ y.tags
 | [], l', y, h => by
  simp only [lendL, Option.some.injEq, Prod.mk.injEq] at h
  obtain ⟨rfl, rfl⟩ := h
  simp
 | a :: r, l', y, h => by
  simp only [lendL] at h
  split at h
  ·rename_i a' x r' z h1 h2
   simp only [Option.some.injEq, Prod.mk.injEq] at h
   obtain ⟨rfl, rfl⟩ := h
   obtain ⟨h3, h4⟩ := lendL_get h2
   refine ⟨by simp [h3], fun j b hb => ?_⟩
   cases j with
   | zero =>
    simp only [List.getElem?_cons_zero, Option.some.injEq] at hb
    subst hb
    exact ⟨a, x, rfl, h1, fun o ho => List.mem_append.2 (.inl ho), fun o ho => List.mem_append.2 (.inl ho)⟩
   | succ j =>
    simp only [List.getElem?_cons_succ] at hb
    obtain ⟨c, z', h5, h6, h7, h8⟩ := h4 j b hb
    exact ⟨c, z', by simpa using h5, h6, fun o ho => List.mem_append.2 (.inr (h7 o ho)), fun o ho => List.mem_append.2 (.inr (h8 o ho))⟩
  ·cases h

theorem Cv.sub {y x : Lent} (hc : Cv ls i y) (h1 : ∀ o ∈ x.objs, o ∈ y.objs) (h2 : ∀ t ∈ x.tags, t ∈ y.tags) : Cv ls i x :=
 let ⟨z, h3, h4, h5⟩ := hc; ⟨z, h3, fun o ho => h4 o (h1 o ho), fun t ht => h5 t (h2 t ht)⟩

theorem lendV_v (hI : Inv C K T) {a a' : AV} {v : Value} {y : Lent} (hv : VRel K T a v) (h : lendV K.H (i + 1) a = some (a', y)) (hc : Cv ls i y) (hd : Off π y) :
  VRel (intoK K π n) (Tc K T π ls) (ren (intoN K.H π) (fun t => t) a') v := by
 unfold lendV at h
 split at h
 ·rename_i l
  cases hl : lendL K.H (i + 1) l with
  | none => rw [hl] at h; cases h
  | some z =>
   obtain ⟨l', z⟩ := z
   rw [hl] at h
   simp only [Option.map_some, Option.some.injEq, Prod.mk.injEq] at h
   obtain ⟨rfl, rfl⟩ := h
   obtain ⟨h1, h2⟩ := lendL_get hl
   simp only [VRel, V1Rel] at hv
   obtain ⟨cs, rfl, h3, h4⟩ := hv
   simp only [ren, VRel, V1Rel]
   refine ⟨cs, rfl, by simpa [cellsLen, plen, pesz, renL_len, h1] using h3, ?_⟩
   simp only [PRel, GP] at h4 ⊢
   intro j b hb
   rw [renL_map, List.getElem?_map] at hb
   cases hc' : l'[j]? with
   | none => rw [hc'] at hb; cases hb
   | some b' =>
    rw [hc'] at hb
    simp only [Option.map_some, Option.some.injEq] at hb
    subst hb
    obtain ⟨a, x, h5, h6, h7, h8⟩ := h2 j b' hc'
    obtain ⟨v, h9, h10, h11⟩ := h4 j a h5
    exact ⟨v, h9, h10, lend1_s hI h11 h6 (hc.sub h7 h8) (fun o ho => hd o (h7 o ho))⟩
 ·rename_i f l
  cases hl : lendL K.H (i + 1) l with
  | none => rw [hl] at h; cases h
  | some z =>
   obtain ⟨l', z⟩ := z
   rw [hl] at h
   simp only [Option.map_some, Option.some.injEq, Prod.mk.injEq] at h
   obtain ⟨rfl, rfl⟩ := h
   obtain ⟨h1, h2⟩ := lendL_get hl
   simp only [VRel, V1Rel] at hv
   obtain ⟨vs, rfl, h3, h4⟩ := hv
   simp only [ren, VRel, V1Rel]
   refine ⟨vs, rfl, by simpa [renL_len, h1] using h3, fun j b hb => ?_⟩
   rw [renL_map, List.getElem?_map] at hb
   cases hc' : l'[j]? with
   | none => rw [hc'] at hb; cases hb
   | some b' =>
    rw [hc'] at hb
    simp only [Option.map_some, Option.some.injEq] at hb
    subst hb
    obtain ⟨a, x, h5, h6, h7, h8⟩ := h2 j b' hc'
    obtain ⟨v, h9, h11⟩ := h4 j a h5
    exact ⟨v, h9, lend1_s hI h11 h6 (hc.sub h7 h8) (fun o ho => hd o (h7 o ho))⟩
 ·by_cases hn : noTup a = true
  ·have h1 : V1Rel K T a v := by cases a <;> first | exact hv | (simp [noTup] at hn; done)
   exact lend1_v1 hI h1 hn h hc hd
  ·cases a <;> simp [noTup] at hn
   case tup l =>
    simp only [lend1] at h
    split at h
    ·rename_i ht
     simp only [Option.some.injEq, Prod.mk.injEq] at h
     obtain ⟨rfl, rfl⟩ := h
     exact into_v hI hv (by simpa using ht)
    ·cases h

theorem lendArgs_ok (hI : Inv C K T) {f : Nat} : ∀ {args : List AV} {vs : List Value} {as : List AV} {xs : List Lent} {i : Nat}, ArgsRel K T args vs → lendArgs C f K.H i args = some (as, xs) →
  (∀ (j : Nat) (x : Lent), xs[j]? = some x → ls[i + j]? = some x) → (∀ x ∈ xs, Off π x) → ArgsRel (intoK K π n) (Tc K T π ls) (renL (intoN K.H π) (fun t => t) as) vs
 | [], vs, as, xs, i, ha, h, _, _ => by
  rw [ha.nil]
  simp only [lendArgs, Option.some.injEq, Prod.mk.injEq] at h
  obtain ⟨rfl, rfl⟩ := h
  trivial
 | a :: r, vs, as, xs, i, ha, h, hls, hd => by
  obtain ⟨v, s, rfl, hv, hr⟩ := ha.cons
  simp only [lendArgs] at h
  split at h
  ·rename_i a' x r' y h1 h2
   simp only [Option.some.injEq, Prod.mk.injEq] at h
   obtain ⟨rfl, rfl⟩ := h
   have hd1 : Off π x := hd x (by simp)
   have ih := lendArgs_ok hI hr h2 (fun j z hz => by rw [show i + 1 + j = i + (j + 1) by omega]; exact hls (j + 1) z (by simpa using hz)) (fun z hz => hd z (by simp [hz]))
   refine ⟨?_, ih⟩
   split at h1
   ·simp only [Option.some.injEq, Prod.mk.injEq] at h1
    obtain ⟨rfl, rfl⟩ := h1
    exact into_v hI hv rfl
   ·exact lendV_v hI hv h1 ⟨x, hls 0 x rfl, fun _ h => h, fun _ h => h⟩ hd1
  ·cases h

theorem coerce_ok {C : Ctx} {K : Kx} {T : Nat → Nat → Prop} : ∀ {l : List AV} {vs : List Value} {ts : List TypeId}, ArgsRel K T l vs → ArgsRel K T (coerce C l ts) vs
 | [], vs, ts, h => by simpa [coerce] using h
 | a :: r, vs, ts, h => by
  obtain ⟨v, s, rfl, hv, hr⟩ := h.cons
  refine ⟨?_, coerce_ok hr⟩
  split
  ·split
   ·rename_i c t _ _ _ e _
    simp only [VRel, V1Rel, SRel, RV] at hv ⊢
    obtain ⟨ad, cap, h1, h2, _⟩ := hv
    have : plen (emptyRow C e) = 0 := by unfold emptyRow; split <;> rfl
    rw [this]
    exact ⟨ad, cap, h1, h2, fun _ _ h => absurd rfl h⟩
   ·exact hv
  ·exact hv

end

end Go.AM

/- A call: back out of the callee. -/
namespace Go.AM

theorem putBack_len {ρ : Nat → Nat → Option (Nat × Nat)} {τ : Nat → Nat} {H : Heap} {π : List Nat} {H1 : Heap} : ∀ (l : List Nat) (k : Nat) (B : Heap), (putBack ρ τ H π H1 k l B).length = B.length
 | [], k, B => rfl
 | o :: r, k, B => by simp [putBack, putBack_len r, upd]

theorem putBack_get {ρ : Nat → Nat → Option (Nat × Nat)} {τ : Nat → Nat} {H : Heap} {π : List Nat} {H1 : Heap} : ∀ {l : List Nat} {k : Nat} {B : Heap} {o : Nat} {ob2 : Obj}, (putBack ρ τ H π H1 k l B)[o]? = some (some ob2) → l.Nodup →
  (o ∉ l ∧ B[o]? = some (some ob2)) ∨ ∃ j ob1, l[j]? = some o ∧ obAt H1 (k + j) = some ob1 ∧ ob2 = renObj ρ τ (genBack H π (k + j) ob1.g) ob1
 | [], k, B, o, ob2, h, _ => .inl ⟨by simp, h⟩
 | a :: r, k, B, o, ob2, h, hn => by
  simp only [putBack] at h
  obtain ⟨hn1, hn2⟩ := List.nodup_cons.1 hn
  rcases putBack_get h hn2 with ⟨h1, h2⟩ | ⟨j, ob1, h1, h2, h3⟩
  ·unfold upd at h2
   by_cases e : a = o
   ·subst e
    right
    rw [List.getElem?_set] at h2
    simp only [if_true] at h2
    split at h2
    ·simp only [Option.some.injEq, Option.map_eq_some_iff] at h2
     obtain ⟨ob1, h3, h4⟩ := h2
     exact ⟨0, ob1, rfl, by simpa using h3, by simpa using h4.symm⟩
    ·cases h2
   ·left
    rw [List.getElem?_set_ne e] at h2
    exact ⟨by simp [h1, Ne.symm e], h2⟩
  ·right
   refine ⟨j + 1, ob1, by simpa using h1, by rw [show k + (j + 1) = k + 1 + j by omega]; exact h2, by rw [show k + (j + 1) = k + 1 + j by omega]; exact h3⟩

theorem strike_len : ∀ (l : List Nat) (B : Heap), (strike l B).length = B.length
 | [], B => rfl
 | o :: r, B => by simp [strike, strike_len r, upd]

theorem strike_get : ∀ {l : List Nat} {B : Heap} {o : Nat} {ob : Obj}, (strike l B)[o]? = some (some ob) → o ∉ l ∧ B[o]? = some (some ob)
 | [], B, o, ob, h => ⟨by simp, h⟩
 | a :: r, B, o, ob, h => by
  simp only [strike] at h
  obtain ⟨h1, h2⟩ := strike_get h
  unfold upd at h2
  by_cases e : a = o
  ·subst e
   rw [List.getElem?_set] at h2
   simp only [if_true] at h2
   split at h2
   ·cases h2
   ·cases h2
  ·rw [List.getElem?_set_ne e] at h2
   exact ⟨by simp [h1, Ne.symm e], h2⟩

theorem idxOf_none : ∀ {l : List Nat} {o i : Nat}, o ∉ l → idxOf l o i = none
 | [], _, _, _ => rfl
 | a :: r, o, i, h => by
  simp only [List.mem_cons, not_or] at h
  simp [idxOf, Ne.symm h.1, idxOf_none h.2]

theorem idxOf_get : ∀ {l : List Nat} {o i k : Nat}, l.Nodup → l[k]? = some o → idxOf l o i = some (i + k)
 | [], o, i, k, _, h => by simp at h
 | a :: r, o, i, k, hn, h => by
  obtain ⟨h1, h2⟩ := List.nodup_cons.1 hn
  cases k with
  | zero =>
   simp only [List.getElem?_cons_zero, Option.some.injEq] at h
   simp [idxOf, h]
  | succ k =>
   simp only [List.getElem?_cons_succ] at h
   have : a ≠ o := fun e => h1 (e ▸ List.mem_of_getElem? h)
   simp only [idxOf, this, if_false]
   rw [idxOf_get h2 h]
   congr 1
   omega

/-- what is left behind the callee -/
def backK (K : Kx) (π new : List Nat) (K1 : Kx) (H2 : Heap) : Kx :=
 ⟨fun o => if o < K.H.length then (match idxOf π o 0 with | some k => K1.μ k | none => K.μ o) else K1.μ (new.getD (o - K.H.length) 0), H2, K1.w⟩

def backH (ρ : Nat → Nat → Option (Nat × Nat)) (τ : Nat → Nat) (H : Heap) (π gone new : List Nat) (H1 : Heap) : Heap :=
 strike gone (putBack ρ τ H π H1 0 π H) ++ new.map fun o => (obAt H1 o).map (renObj ρ τ 0)

section
variable {C : Ctx} {K K1 : Kx} {T : Nat → Nat → Prop} {π new gone : List Nat} {ls : List Lent} {n : Nat} {ρ : Nat → Nat → Option (Nat × Nat)} {τ : Nat → Nat}

theorem backH_len : (backH ρ τ K.H π gone new K1.H).length = K.H.length + new.length := by
 simp [backH, strike_len, putBack_len]

theorem backK_get (hnd : π.Nodup) {o : Nat} {ob2 : Obj} (h : (backK K π new K1 (backH ρ τ K.H π gone new K1.H)).H[o]? = some (some ob2)) :
  (o < K.H.length ∧ o ∉ gone ∧ o ∉ π ∧ K.H[o]? = some (some ob2) ∧ (backK K π new K1 (backH ρ τ K.H π gone new K1.H)).μ o = K.μ o) ∨
  (∃ k ob1, o < K.H.length ∧ o ∉ gone ∧ π[k]? = some o ∧ K1.H[k]? = some (some ob1) ∧ ob2 = renObj ρ τ (genBack K.H π k ob1.g) ob1 ∧ (backK K π new K1 (backH ρ τ K.H π gone new K1.H)).μ o = K1.μ k) ∨
  ∃ j k ob1, o = K.H.length + j ∧ new[j]? = some k ∧ K1.H[k]? = some (some ob1) ∧ ob2 = renObj ρ τ 0 ob1 ∧ (backK K π new K1 (backH ρ τ K.H π gone new K1.H)).μ o = K1.μ k := by
 simp only [backK, backH] at h
 by_cases hlt : o < K.H.length
 ·rw [List.getElem?_append_left (by rw [strike_len, putBack_len]; exact hlt)] at h
  obtain ⟨h1, h2⟩ := strike_get h
  rcases putBack_get h2 hnd with ⟨h3, h4⟩ | ⟨j, ob1, h3, h4, h5⟩
  ·left
   exact ⟨hlt, h1, h3, h4, by simp only [backK, hlt, if_true, idxOf_none h3]⟩
  ·right; left
   rw [Nat.zero_add] at h4 h5
   refine ⟨j, ob1, hlt, h1, h3, obAt_some.1 h4, h5, ?_⟩
   simp only [backK, hlt, if_true, idxOf_get (i := 0) hnd h3, Nat.zero_add]
 ·right; right
  rw [List.getElem?_append_right (by rw [strike_len, putBack_len]; omega)] at h
  rw [strike_len, putBack_len, List.getElem?_map] at h
  cases hk : new[o - K.H.length]? with
  | none => rw [hk] at h; cases h
  | some k =>
   rw [hk] at h
   simp only [Option.map_some, Option.some.injEq, Option.map_eq_some_iff] at h
   obtain ⟨ob1, h1, h2⟩ := h
   refine ⟨o - K.H.length, k, ob1, by omega, hk, obAt_some.1 h1, h2.symm, ?_⟩
   simp only [backK, hlt, if_false, List.getD_eq_getElem?_getD, hk, Option.getD_some]

/-- where what is left lies -/
theorem backK_own (hnd : π.Nodup) {b : Nat} (h : Own (backK K π new K1 (backH ρ τ K.H π gone new K1.H)) b) : (∃ o, o ∉ π ∧ o ∉ gone ∧ BlkOf K o b) ∨ Own K1 b := by
 obtain ⟨o, ob2, h1, h2, h3⟩ := h
 rcases backK_get hnd h1 with ⟨_, g2, g3, g4, g5⟩ | ⟨k, ob1, _, _, _, g4, rfl, g5⟩ | ⟨j, k, ob1, _, _, g4, rfl, g5⟩
 ·rw [g5] at h2 h3
  exact .inl ⟨o, g3, g2, ob2, g4, h2, h3⟩
 ·rw [g5] at h2 h3
  exact .inr ⟨k, ob1, g4, (Real.same (same_ren _ _ _ ob1)).1 h2, h3⟩
 ·rw [g5] at h2 h3
  exact .inr ⟨k, ob1, g4, (Real.same (same_ren _ _ _ ob1)).1 h2, h3⟩

theorem back_evo (hI : Inv C K T) (hnd : π.Nodup) (hlive : ∀ o ∈ π, ∃ ob, K.H[o]? = some (some ob)) (hn : n + 1 < gtag) (E : Evo (Tc K T π ls) π.length (intoK K π (n + 1)) K1) :
  Evo T K.H.length K (backK K π new K1 (backH ρ τ K.H π gone new K1.H)) where
 lo := Nat.le_refl _
 len := by simp only [backK]; rw [backH_len]; omega
 size := E.size
 os := E.os
 tape := E.tape
 output := E.output
 obj := by
  intro o ho ob' h
  rcases backK_get hnd h with ⟨_, g2, g3, g4, g5⟩ | ⟨k, ob1, _, _, g3, g4, rfl, g5⟩ | ⟨j, k, ob1, g, _⟩
  ·exact ⟨ob', g4, Nat.le_refl _, fun _ => ⟨g5, Same.refl _⟩⟩
  ·obtain ⟨ob, hob⟩ := hlive o (List.mem_of_getElem? g3)
   have hk : k < π.length := (List.getElem?_eq_some_iff.1 g3).1
   obtain ⟨ob0, h1, h2, h3⟩ := E.obj k hk ob1 g4
   obtain ⟨o2, ob3, q1, q2, q3, q4⟩ := intoK_get h1
   rw [g3] at q1
   simp only [Option.some.injEq] at q1
   subst q1
   rw [hob] at q2
   simp only [Option.some.injEq] at q2
   subst q2; subst q3
   have hg : genBack K.H π k ob1.g = ob.g + (if ob1.g = 0 then 0 else 1) := by
    simp only [genBack, g3, obAt_some.2 hob]
   refine ⟨ob, hob, by simp only [renObj, hg]; omega, fun e => ?_⟩
   have e0 : ob1.g = 0 := by
    simp only [renObj, hg] at e
    by_cases h0 : ob1.g = 0
    ·exact h0
    ·rw [if_neg h0] at e; omega
   obtain ⟨h4, h5⟩ := h3 (by simp only [renObj]; exact e0)
   rw [g5, h4, q4]
   exact ⟨rfl, (same_ren _ _ _ ob).trans (h5.trans (same_ren _ _ _ ob1))⟩
  ·omega
 own := by
  intro b hb h
  rcases backK_own hnd h with ⟨o, _, _, h⟩ | h
  ·exact h.own
  ·obtain ⟨o, _, h⟩ := intoK_own (E.own b hb h)
   exact h.own
 cells := by
  intro b hb ho off
  exact E.cells b hb (fun h => let ⟨_, _, h⟩ := intoK_own h; ho h.own) off
 exact := by
  intro b hb ho ht
  refine E.exact b hb (fun h => let ⟨_, _, h⟩ := intoK_own h; ho h.own) ?_
  rintro (h | ⟨o, _, h⟩ | ⟨h, _⟩ | ⟨i, x, h, _⟩)
  ·omega
  ·exact ho h.own
  ·simp [gtag] at h
  ·omega

end

end Go.AM

/- A call: all of it. -/
namespace Go.AM

section
variable {C : Ctx} {K K1 : Kx} {T : Nat → Nat → Prop} {π new gone : List Nat} {ls : List Lent} {n : Nat} {τ : Nat → Nat}

theorem back_ren (hI : Inv C K T) (hnd : π.Nodup) (hlive : ∀ o ∈ π, ∃ ob, K.H[o]? = some (some ob)) (hn : n + 1 < gtag) (hls : ls.length = n + 1)
  (hI1 : Inv C K1 (Tc K T π ls)) (E : Evo (Tc K T π ls) π.length (intoK K π (n + 1)) K1) {used : List Nat}
  (hu : ∀ t ∈ used, (backTag ls t).isSome = true) (hg : ∀ t ∈ used, ∀ o ∈ goneOf ls t, o ∈ gone) :
  Ren (backN K.H π new K1.H) (backT ls) K1 (backK K π new K1 (backH (backN K.H π new K1.H) (backT ls) K.H π gone new K1.H)) (Tc K T π ls) T (fun t => t ∈ used) where
 w := rfl
 h := by
  intro o g o' g' h
  unfold backN at h
  split at h
  ·rename_i ob hob
   obtain ⟨ho, hog⟩ := live_iff.1 hob
   split at h
   ·rename_i hlt
    cases hp : π[o]? with
    | none => rw [hp] at h; cases h
    | some x =>
     rw [hp] at h
     simp only [Option.map_some, Option.some.injEq, Prod.mk.injEq] at h
     obtain ⟨rfl, rfl⟩ := h
     obtain ⟨obx, hobx⟩ := hlive x (List.mem_of_getElem? hp)
     have hxl : x < K.H.length := (List.getElem?_eq_some_iff.1 hobx).1
     refine ⟨by simp only [backK]; rw [backH_len]; omega, ob, hob, fun ob' h => ?_⟩
     rcases backK_get hnd h with ⟨_, _, g3, _⟩ | ⟨k, ob1, _, _, g3, g4, rfl, g5⟩ | ⟨j, k, ob1, g, _⟩
     ·exact absurd (List.mem_of_getElem? hp) g3
     ·have e1 := List.getElem?_eq_some_iff.1 g3
      have e2 := List.getElem?_eq_some_iff.1 hp
      have : k = o := (List.getElem_inj hnd).1 (e1.2.trans e2.2.symm)
      subst this
      rw [ho] at g4
      simp only [Option.some.injEq] at g4
      subst g4
      simp only [renObj, hog, Nat.le_refl, true_and]
      exact fun _ => ⟨g5, same_ren _ _ 0 ob⟩
     ·omega
   ·rename_i hlt
    cases hi : idxOf new o K.H.length with
    | none => rw [hi] at h; cases h
    | some k =>
     rw [hi] at h
     simp only [Option.map_some, Option.some.injEq, Prod.mk.injEq] at h
     obtain ⟨rfl, rfl⟩ := h
     obtain ⟨h1, h2⟩ := idxOf_some hi
     have h3 := (List.getElem?_eq_some_iff.1 h2).1
     refine ⟨by simp only [backK]; rw [backH_len]; omega, ob, hob, fun ob' h => ?_⟩
     rcases backK_get hnd h with ⟨q1, _⟩ | ⟨k, ob1, q1, _⟩ | ⟨j, k', ob1, g, g3, g4, rfl, g5⟩
     ·omega
     ·omega
     ·have : j = k - K.H.length := by omega
      subst this
      rw [h2] at g3
      simp only [Option.some.injEq] at g3
      subst g3
      rw [ho] at g4
      simp only [Option.some.injEq] at g4
      subst g4
      exact ⟨Nat.zero_le _, fun _ => ⟨g5, same_ren _ _ 0 ob⟩⟩
  ·cases h
 t := by
  intro t ht b hb
  obtain ⟨h1, h2, h3⟩ := hb
  have hs := hu t ht
  refine ⟨?_, fun hO => ?_, h3⟩
  ·rcases h1 with h | ⟨o, _, h⟩ | ⟨h, _⟩ | ⟨i, x, h, hx, hb⟩
   ·exact hI.mono _ _ (hI.new b h)
   ·exact hI.mono _ _ (hI.own b h.own).2
   ·subst h
    have : ls[gtag - 1]? = none := List.getElem?_eq_none (by rw [hls]; omega)
    rw [backTag, if_neg (by simp [gtag]), this] at hs
    cases hs
   ·subst h
    simp only [backTag, Nat.add_one_ne_zero, if_false, Nat.add_sub_cancel, hx] at hs
    obtain ⟨s, hs⟩ := Option.isSome_iff_exists.1 hs
    have e : backT ls (i + 1) = s := by simp [backT, backTag, hx, hs]
    rw [e]
    rcases hb with ⟨o, _, h⟩ | ⟨t', ht', h⟩
    ·exact hI.mono _ _ (hI.own b h.own).2
    ·exact joinTags_ok hI.mono hs t' ht' b h.1
  ·rcases backK_own hnd hO with ⟨o', g1, g2, g3⟩ | h
   ·rcases h1 with h | ⟨o, ho, h⟩ | ⟨h, _⟩ | ⟨i, x, h, hx, hb⟩
    ·exact absurd (hI.own b g3.own).1 (by omega)
    ·exact g1 (by rw [BlkOf.inj hI g3 h]; exact ho)
    ·subst h
     have : ls[gtag - 1]? = none := List.getElem?_eq_none (by rw [hls]; omega)
     rw [backTag, if_neg (by simp [gtag]), this] at hs
     cases hs
    ·subst h
     rcases hb with ⟨o, ho, h⟩ | ⟨t', ht', h⟩
     ·refine g2 (hg _ ht o' ?_)
      rw [BlkOf.inj hI g3 h]
      simp only [goneOf, Nat.add_one_ne_zero, if_false, Nat.add_sub_cancel, hx]
      exact ho
     ·exact h.2.1 g3.own
   ·exact h2 h

theorem back_inv (hI : Inv C K T) (hnd : π.Nodup) (hlive : ∀ o ∈ π, ∃ ob, K.H[o]? = some (some ob)) (hn : n + 1 < gtag) (hls : ls.length = n + 1)
  (hI1 : Inv C K1 (Tc K T π ls)) (E : Evo (Tc K T π ls) π.length (intoK K π (n + 1)) K1) {used : List Nat}
  (hu : ∀ t ∈ used, (backTag ls t).isSome = true) (hg : ∀ t ∈ used, ∀ o ∈ goneOf ls t, o ∈ gone) (hnn : new.Nodup) (hnew : ∀ k ∈ new, π.length ≤ k)
  (hu1 : ∀ t ∈ tagsObjsN ((List.range π.length).map (obAt K1.H)), t ∈ used) (hu2 : ∀ t ∈ tagsObjsN (new.map (obAt K1.H)), t ∈ used) :
  Inv C (backK K π new K1 (backH (backN K.H π new K1.H) (backT ls) K.H π gone new K1.H)) T := by
 have hE := back_evo (new := new) (gone := gone) (ρ := backN K.H π new K1.H) (τ := backT ls) hI hnd hlive hn E
 have hR := back_ren (new := new) hI hnd hlive hn hls hI1 E hu hg
 -- a block of K that stays: untouched
 have hstay : ∀ {o b : Nat}, BlkOf K o b → o ∉ π → ¬ Own (intoK K π (n + 1)) b ∧ ¬ Tc K T π ls 0 b := by
  intro o b h ho
  refine ⟨fun h' => ?_, ?_⟩
  ·obtain ⟨o', h1, h2⟩ := intoK_own h'
   exact ho (by rw [BlkOf.inj hI h h2]; exact h1)
  ·rintro (h' | ⟨o', h1, h2⟩ | ⟨h', _⟩ | ⟨i, x, h', _⟩)
   ·exact absurd (hI.own b h.own).1 (by omega)
   ·exact ho (by rw [BlkOf.inj hI h h2]; exact h1)
   ·simp [gtag] at h'
   ·omega
 have hsep : ∀ {o b : Nat}, BlkOf K o b → o ∉ π → ¬ Own K1 b := fun h ho h' => (hstay h ho).1 (E.own _ (hI.own _ h.own).1 h')
 constructor
 ·-- obj
  intro o ob2 h
  rcases backK_get hnd h with ⟨_, g2, g3, g4, g5⟩ | ⟨k, ob1, _, _, g3, g4, rfl, g5⟩ | ⟨j, k, ob1, _, g3, g4, rfl, g5⟩
  ·refine ObjOk.evo hE (Nat.le_refl _) g5 (fun hr => ?_) (hI.obj o ob2 g4)
   have hb : BlkOf K o (K.μ o).blk := ⟨ob2, g4, hr, rfl⟩
   obtain ⟨h1, h2⟩ := hstay hb g3
   exact E.exact _ (hI.own _ hb.own).1 h1 h2
  ·refine ObjOk.ren hR (fun t ht => hu1 t (tagsObjsN_mem (List.mem_map.2 ⟨k, ?_, obAt_some.2 g4⟩) t ht)) g5 (hI1.obj k ob1 g4)
   exact List.mem_range.2 (List.getElem?_eq_some_iff.1 g3).1
  ·exact ObjOk.ren hR (fun t ht => hu2 t (tagsObjsN_mem (List.mem_map.2 ⟨k, List.mem_of_getElem? g3, obAt_some.2 g4⟩) t ht)) g5 (hI1.obj k ob1 g4)
 ·-- inj
  intro o o' ob ob' h h' hr hr' hb
  rcases backK_get hnd h with ⟨_, g2, g3, g4, g5⟩ | ⟨k, ob1, _, _, g3, g4, rfl, g5⟩ | ⟨j, k, ob1, gj, g3, g4, rfl, g5⟩ <;>
  rcases backK_get hnd h' with ⟨_, g2', g3', g4', g5'⟩ | ⟨k', ob1', _, _, g3', g4', rfl, g5'⟩ | ⟨j', k', ob1', gj', g3', g4', rfl, g5'⟩ <;>
  rw [g5] at hr hb <;> rw [g5'] at hr' hb
  ·exact hI.inj o o' ob ob' g4 g4' hr hr' hb
  ·exact absurd ⟨k', ob1', g4', (Real.same (same_ren _ _ _ _)).1 hr', rfl⟩ (hsep ⟨ob, g4, hr, hb⟩ g3)
  ·exact absurd ⟨k', ob1', g4', (Real.same (same_ren _ _ _ _)).1 hr', rfl⟩ (hsep ⟨ob, g4, hr, hb⟩ g3)
  ·exact absurd ⟨k, ob1, g4, (Real.same (same_ren _ _ _ _)).1 hr, rfl⟩ (hsep ⟨ob', g4', hr', hb.symm⟩ g3')
  ·have := hI1.inj k k' ob1 ob1' g4 g4' ((Real.same (same_ren _ _ _ _)).1 hr) ((Real.same (same_ren _ _ _ _)).1 hr') hb
   subst this
   rw [g3] at g3'
   exact Option.some.inj g3'
  ·have := hI1.inj k k' ob1 ob1' g4 g4' ((Real.same (same_ren _ _ _ _)).1 hr) ((Real.same (same_ren _ _ _ _)).1 hr') hb
   subst this
   have h1 := (List.getElem?_eq_some_iff.1 g3).1
   have h2 := hnew k (List.mem_of_getElem? g3')
   omega
  ·exact absurd ⟨k, ob1, g4, (Real.same (same_ren _ _ _ _)).1 hr, rfl⟩ (hsep ⟨ob', g4', hr', hb.symm⟩ g3')
  ·have := hI1.inj k k' ob1 ob1' g4 g4' ((Real.same (same_ren _ _ _ _)).1 hr) ((Real.same (same_ren _ _ _ _)).1 hr') hb
   subst this
   have h1 := (List.getElem?_eq_some_iff.1 g3').1
   have h2 := hnew k (List.mem_of_getElem? g3)
   omega
  ·have := hI1.inj k k' ob1 ob1' g4 g4' ((Real.same (same_ren _ _ _ _)).1 hr) ((Real.same (same_ren _ _ _ _)).1 hr') hb
   subst this
   have e1 := List.getElem?_eq_some_iff.1 g3
   have e2 := List.getElem?_eq_some_iff.1 g3'
   have : j = j' := (List.getElem_inj hnn).1 (e1.2.trans e2.2.symm)
   omega
 ·-- own
  intro b h
  rcases backK_own hnd h with ⟨o, _, _, h⟩ | h
  ·exact ⟨Nat.lt_of_lt_of_le (hI.own b h.own).1 E.size, (hI.own b h.own).2⟩
  ·obtain ⟨h1, h2⟩ := hI1.own b h
   refine ⟨h1, ?_⟩
   rcases h2 with h | ⟨o, _, h⟩ | ⟨h, _⟩ | ⟨i, x, h, _⟩
   ·exact hI.new b h
   ·exact (hI.own b h.own).2
   ·simp [gtag] at h
   ·omega
 ·exact fun b hb => hI.new b (Nat.le_trans E.size hb)
 ·exact hI.mono
 ·intro g p hg
  obtain ⟨h1, h2, h3⟩ := hI.glob g p hg
  have h4 := NT.evo hE h2
  exact ⟨h1, h4.1, RP_mono (fun b hb => NT.evo hE hb) p _ _ (fun j u hu => h4.2 _ _ hu) h3⟩

end

/-- what a call must give -/
def Gives (C : Ctx) (T : Nat → Nat → Prop) (K : Kx) (x : AV) (H' : Heap) : Ending → World → Prop
 | .returned v, w' => ∃ μ', Inv C ⟨μ', H', w'⟩ T ∧ Evo T K.H.length K ⟨μ', H', w'⟩ ∧ VRel ⟨μ', H', w'⟩ T x v
 | _, _ => False

def CfOk (C : Ctx) (cf : Cf) : Prop := ∀ f args H x H', cf f args H = some (x, H') → ∀ K T (vs : Array Value), K.H = H → Inv C K T → ArgsRel K T args vs.toList →
 Calls C.P f vs K.w (Gives C T K x H')

theorem disjoint_iff : ∀ {a b : List Nat}, disjoint a b = true ↔ ∀ o ∈ a, o ∉ b
 | [], b => by simp [disjoint]
 | x :: r, b => by simp [disjoint, disjoint_iff (a := r)]

theorem lendArgs_len {C : Ctx} {f : Nat} {H : Heap} : ∀ {args : List AV} {i : Nat} {as : List AV} {xs : List Lent}, lendArgs C f H i args = some (as, xs) → xs.length = as.length
 | [], i, as, xs, h => by
  simp only [lendArgs, Option.some.injEq, Prod.mk.injEq] at h
  obtain ⟨rfl, rfl⟩ := h
  rfl
 | a :: r, i, as, xs, h => by
  simp only [lendArgs] at h
  split at h
  ·rename_i h2
   simp only [Option.some.injEq, Prod.mk.injEq] at h
   obtain ⟨rfl, rfl⟩ := h
   simp [lendArgs_len h2]
  ·cases h

theorem enterV_ok {C : Ctx} {body : Cf} (hb : CfOk C body) : CfOk C (enterV C body) := by
 intro f args H x H' h K T vs hK hI ha
 subst hK
 unfold enterV at h
 split at h
 ·cases h
 ·rename_i as xs hl
  simp only at h
  obtain ⟨hnd, hlive⟩ := reach_ok K.H reachFuel (idsL as) [] List.nodup_nil (by simp)
  generalize reach K.H reachFuel (idsL as) [] = π at h hnd hlive
  split at h
  ·rename_i hc
   simp only [Bool.and_eq_true, decide_eq_true_eq, List.all_eq_true] at hc
   obtain ⟨hdis, hn⟩ := hc
   have hlen := lendArgs_len hl
   split at h
   ·cases h
   ·rename_i v H1 hbody
    generalize hls : xs ++ [⟨[], tagsObjs (π.map (obAt K.H))⟩] = ls at h
    have hlsl : ls.length = as.length + 1 := by rw [← hls]; simp [hlen]
    have hother : ls[as.length]? = some ⟨[], tagsObjs (π.map (obAt K.H))⟩ := by rw [← hls, ← hlen]; simp
    have hI0 := intoK_inv hI hnd hn hother
    have hargs : ArgsRel (intoK K π (as.length + 1)) (Tc K T π ls) (coerce C (renL (intoN K.H π) (fun t => t) as) (paramsOf C f)) vs.toList := by
     refine coerce_ok (lendArgs_ok hI ha hl (fun j y hy => ?_) (fun y hy => disjoint_iff.1 (hdis y hy)))
     rw [← hls, Nat.zero_add]
     rw [List.getElem?_append_left (List.getElem?_eq_some_iff.1 hy).1]
     exact hy
    have hcalls := hb f _ _ v H1 hbody (intoK K π (as.length + 1)) (Tc K T π ls) vs rfl hI0 hargs
    refine Calls.mono hcalls fun e w' he => ?_
    cases e with
    | panicked c => exact he
    | outgrown => exact he
    | returned u =>
     obtain ⟨μ1, hI1, E, hv⟩ := he
     have hE : Evo (Tc K T π ls) π.length (intoK K π (as.length + 1)) ⟨μ1, H1, w'⟩ := by
      have : (intoK K π (as.length + 1)).H.length = π.length := by simp [intoK]
      rw [this] at E
      exact E
     simp only [wrap] at h
     obtain ⟨hnd1, _⟩ := reach_ok H1 reachFuel (List.range π.length ++ ids v) [] List.nodup_nil (by simp)
     generalize reach H1 reachFuel (List.range π.length ++ ids v) [] = Kr at h hnd1
     split at h
     ·rename_i hu
      simp only [List.all_eq_true] at hu
      simp only [Option.some.injEq, Prod.mk.injEq] at h
      obtain ⟨rfl, rfl⟩ := h
      have hsub : ∀ t ∈ (tagsN v ++ tagsObjsN ((List.range π.length).map (obAt H1)) ++ tagsObjsN ((Kr.filter fun o => π.length ≤ o).map (obAt H1))), t ∈ (tags v ++ tagsObjs ((List.range π.length).map (obAt H1)) ++ tagsObjs ((Kr.filter fun o => π.length ≤ o).map (obAt H1))) := by
       intro t ht
       simp only [List.mem_append] at ht ⊢
       exact ht.imp (fun h => h.imp tagsN_sub tagsObjsN_sub) tagsObjsN_sub
      have hu' := fun t ht => hu t (hsub t ht)
      have hg : ∀ t ∈ (tagsN v ++ tagsObjsN ((List.range π.length).map (obAt H1)) ++ tagsObjsN ((Kr.filter fun o => π.length ≤ o).map (obAt H1))), ∀ o ∈ goneOf ls t,
        o ∈ ((tags v ++ tagsObjs ((List.range π.length).map (obAt H1)) ++ tagsObjs ((Kr.filter fun o => π.length ≤ o).map (obAt H1))).flatMap (goneOf ls)).filter fun o => ((tagsN v ++ tagsObjsN ((List.range π.length).map (obAt H1)) ++ tagsObjsN ((Kr.filter fun o => π.length ≤ o).map (obAt H1))).flatMap (goneOf ls)).contains o :=
       fun t ht o ho => List.mem_filter.2 ⟨List.mem_flatMap.2 ⟨t, hsub t ht, ho⟩, List.contains_iff_mem.2 (List.mem_flatMap.2 ⟨t, ht, ho⟩)⟩
      have hR := back_ren (new := Kr.filter fun o => π.length ≤ o) hI hnd hlive hn hlsl hI1 hE hu' hg
      have hI2 := back_inv (new := Kr.filter fun o => π.length ≤ o) hI hnd hlive hn hlsl hI1 hE hu' hg (hnd1.filter _) (fun k hk => by simpa using (List.mem_filter.1 hk).2)
       (fun t ht => by simp only [List.mem_append]; exact .inl (.inr ht)) (fun t ht => by simp only [List.mem_append]; exact .inr ht)
      have hE2 := back_evo (new := Kr.filter fun o => π.length ≤ o) (gone := ((tags v ++ tagsObjs ((List.range π.length).map (obAt H1)) ++ tagsObjs ((Kr.filter fun o => π.length ≤ o).map (obAt H1))).flatMap (goneOf ls)).filter fun o => ((tagsN v ++ tagsObjsN ((List.range π.length).map (obAt H1)) ++ tagsObjsN ((Kr.filter fun o => π.length ≤ o).map (obAt H1))).flatMap (goneOf ls)).contains o)
       (ρ := backN K.H π (Kr.filter fun o => π.length ≤ o) H1) (τ := backT ls) hI hnd hlive hn hE
      exact ⟨_, hI2, hE2, VRel.renN hR (fun t ht => by simp only [List.mem_append]; exact .inl (.inl ht)) hv⟩
     ·cases h
  ·cases h

end Go.AM

/- What an operation may turn, and what a quiet one looks at. -/
namespace Go.AM

section
variable {C : Ctx} {cf : Cf}

/-- the object that a handle leads to -/
def hd : AV → Option Nat
 | .ptr o _ _ _ => some o
 | .sl o _ _ _ => some o
 | .map o _ => some o
 | _ => none

theorem hd_ids {a : AV} {o : Nat} (h : hd a = some o) : o ∈ ids a := by
 cases a <;> simp only [hd, reduceCtorEq, Option.some.injEq] at h <;> simp [ids, h]

theorem live_congr {H H2 : Heap} {o : Nat} (h : H2[o]? = H[o]?) (g : Nat) : live H2 o g = live H o g := by
 unfold live; rw [h]

theorem ofCell_ids (v : Value) : ids (ofCell v) = [] := by
 unfold ofCell; split <;> simp [ids, idsL]

theorem idsL_nil_iff : ∀ {l : List AV}, idsL l = [] ↔ ∀ a ∈ l, ids a = []
 | [] => by simp [idsL]
 | a :: r => by simp [idsL, idsL_nil_iff (l := r)]

theorem chunks_ids {e : Nat} : ∀ {n : Nat} {l : List AV}, idsL l = [] → idsL (chunks e n l) = []
 | 0, l, h => rfl
 | n + 1, l, h => by
  have h' := idsL_nil_iff.1 h
  simp only [chunks, idsL, ids, List.append_eq_nil_iff]
  exact ⟨idsL_nil_iff.2 fun a ha => h' a (List.mem_of_mem_take ha), chunks_ids (idsL_nil_iff.2 fun a ha => h' a (List.mem_of_mem_drop ha))⟩

theorem mkAgg_ids {t : TypeId} {l : List AV} {p : AV} (hl : idsL l = []) (h : mkAgg C t l = some p) : ids p = [] := by
 unfold mkAgg at h
 split at h
 ·split at h
  ·simp only [Option.map_eq_some_iff] at h; obtain ⟨_, _, rfl⟩ := h; rfl
  ·simp only [Option.map_eq_some_iff] at h; obtain ⟨_, _, rfl⟩ := h; rfl
  ·split at h
   ·simp only [Option.some.injEq] at h; subst h; exact chunks_ids hl
   ·cases h
  ·split at h
   ·simp only [Option.some.injEq] at h; subst h; exact chunks_ids hl
   ·cases h
  ·simp only [Option.some.injEq] at h; subst h; exact hl
 ·simp only [Option.some.injEq] at h; subst h; exact hl

theorem ofVal_ids (t : TypeId) (v : Value) : ids (ofVal C t v) = [] := by
 unfold ofVal
 split
 ·rename_i cs
  split
  ·split
   ·rename_i p hp
    have : idsL (cs.toList.map ofCell) = [] := idsL_nil_iff.2 fun a ha => by
     obtain ⟨v, _, rfl⟩ := List.mem_map.1 ha
     exact ofCell_ids v
    simp only [ids]
    exact mkAgg_ids this hp
   ·rfl
  ·rfl
 ·exact ofCell_ids v

theorem evalT_ids {fr : Frame} {t : TypeId} {x : Operand} {o : Nat} (h : o ∈ ids (evalT C fr t x)) : o ∈ ids (evalO C fr x) := by
 cases x <;> simp only [evalT] at h <;> try exact h
 rw [ofVal_ids] at h
 cases h

theorem opVals_ids {fr : Frame} {o : Oper} {x : Operand} (hx : x ∈ o.op.operands) {y : Nat} (hy : y ∈ ids (evalO C fr x)) : y ∈ idsL (opVals C fr o) :=
 idsL_mem (List.mem_map.2 ⟨x, by simpa using hx, rfl⟩) y hy

-- quiet operations

theorem isNil_congr {H H2 : Heap} {t : TypeId} {x : AV} (h : ∀ o, hd x = some o → H2[o]? = H[o]?) : isNil C H2 t x = isNil C H t x := by
 unfold isNil
 split <;> first | rfl | (rw [live_congr (h _ rfl)])

theorem eqV_congr {H H2 : Heap} {t : TypeId} {x y : AV} {xo yo : Operand} (h1 : ∀ o, hd x = some o → H2[o]? = H[o]?) (h2 : ∀ o, hd y = some o → H2[o]? = H[o]?) : eqV C H2 t x y xo yo = eqV C H t x y xo yo := by
 unfold eqV
 rw [isNil_congr h1, isNil_congr h2]

theorem binV_congr {H H2 : Heap} {op : BinOp} {t : TypeId} {x y : AV} {xo yo : Operand} (h1 : ∀ o, hd x = some o → H2[o]? = H[o]?) (h2 : ∀ o, hd y = some o → H2[o]? = H[o]?) : binV C H2 op t x y xo yo = binV C H op t x y xo yo := by
 unfold binV
 rw [eqV_congr h1 h2]

theorem readSl_congr {H H2 : Heap} {x : AV} (h : ∀ o, hd x = some o → H2[o]? = H[o]?) : readSl H2 x = readSl H x := by
 unfold readSl
 split <;> first | rfl | (rw [live_congr (h _ rfl)])

theorem loadV_congr {H H2 : Heap} {t : TypeId} {x : AV} (h : ∀ o, hd x = some o → H2[o]? = H[o]?) : loadV C H2 t x = loadV C H t x := by
 unfold loadV
 split
 ·rfl
 ·split <;> first | rfl | (rw [live_congr (h _ rfl)])

theorem sliceV_congr {H H2 : Heap} {t : TypeId} {x : AV} {lo hi : Option AV} (h : ∀ o, hd x = some o → H2[o]? = H[o]?) : sliceV C H2 t x lo hi = sliceV C H t x lo hi := by
 unfold sliceV
 split <;> first | rfl | (rw [live_congr (h _ rfl)])

theorem fieldAddrV_congr {H H2 : Heap} {t : TypeId} {x : AV} {n : Nat} (h : ∀ o, hd x = some o → H2[o]? = H[o]?) : fieldAddrV C H2 t x n = fieldAddrV C H t x n := by
 unfold fieldAddrV
 split
 ·rfl
 ·split
  ·rfl
  ·split <;> first | rfl | (rw [live_congr (h _ rfl)])

theorem indexAddrV_congr {H H2 : Heap} {t : TypeId} {x ix : AV} (h : ∀ o, hd x = some o → H2[o]? = H[o]?) : indexAddrV C H2 t x ix = indexAddrV C H t x ix := by
 unfold indexAddrV
 split
 ·split <;> first | rfl | (rw [live_congr (h _ rfl)])
 ·rfl

theorem lookupV_congr {H H2 : Heap} {t : TypeId} {x k : AV} {ok : Bool} (h : ∀ o, hd x = some o → H2[o]? = H[o]?) : lookupV C H2 t x k ok = lookupV C H t x k ok := by
 unfold lookupV
 cases x <;> first | rfl | (rename_i o g; simp only [live_congr (h o rfl)])

theorem lenV_congr {H H2 : Heap} {t : TypeId} {x : AV} (h : ∀ o, hd x = some o → H2[o]? = H[o]?) : lenV C H2 t x = lenV C H t x := by
 unfold lenV
 split <;> first | rfl | (rw [live_congr (h _ rfl)])

theorem capV_congr {H H2 : Heap} {t : TypeId} {x : AV} (h : ∀ o, hd x = some o → H2[o]? = H[o]?) : capV C H2 t x = capV C H t x := by
 unfold capV
 split <;> first | rfl | (rw [live_congr (h _ rfl)])

theorem map_swap {m m' : Option AV} {H H2 : Heap} {v : AV} {H' : Heap} (e : m' = m) (h : (m.map fun v => (v, H)) = some (v, H')) : (m'.map fun v => (v, H2)) = some (v, H2) := by
 subst e
 cases m' with
 | none => cases h
 | some y =>
  simp only [Option.map_some, Option.some.injEq, Prod.mk.injEq] at h
  rw [h.1]
  rfl

theorem convV_at {H H2 H' : Heap} {s d : TypeId} {x v : AV} (hx : ∀ o, hd x = some o → H2[o]? = H[o]?) (h : convV C H s d x = some (v, H')) : convV C H2 s d x = some (v, H2) := by
 unfold convV at h ⊢
 rw [readSl_congr hx]
 by_cases hs : okT C s = false
 ·rw [if_pos hs] at h; cases h
 rw [if_neg hs] at h ⊢
 generalize und C d = D at h ⊢
 generalize readSl H x = R at h ⊢
 generalize und C s = S at h ⊢
 have : ∀ z : AV, some (z, H) = some (v, H') → some (z, H2) = some (v, H2) := fun z hz => by
  simp only [Option.some.injEq, Prod.mk.injEq] at hz
  rw [hz.1]
 repeat' (split at h)
 all_goals first
  | (cases h; done)
  | exact this _ h
  | (rename_i hc; rw [if_pos hc]; exact this _ h)
  | (rename_i hc _ _; rw [if_pos hc]; exact this _ h)
  | (rename_i hc _; rw [if_pos hc]; exact this _ h)

theorem quiet_at {fr : Frame} {H H' H2 : Heap} {o : Oper} {v : AV} (hq : quietO C o = true) (hf : freeO C o = false) (h : step C cf fr H o = some (v, H')) (hx : ∀ x ∈ idsL (opVals C fr o), H2[x]? = H[x]?) :
    step C cf fr H2 o = some (v, H2) := by
  have hO : ∀ y, y ∈ o.op.operands → ∀ x, hd (evalO C fr y) = some x → H2[x]? = H[x]? := fun y hy x h => hx x (opVals_ids hy (hd_ids h))
  have hT : ∀ t y, y ∈ o.op.operands → ∀ x, hd (evalT C fr t y) = some x → H2[x]? = H[x]? := fun t y hy x h => hx x (opVals_ids hy (evalT_ids (hd_ids h)))
  obtain ⟨dst, op, type, pos, after, guard⟩ := o
  cases op <;> simp only [quietO] at hq <;> try exact absurd hq (by simpa using hf)
  all_goals simp only [Op.operands] at hO hT
  all_goals simp only [step] at h ⊢
  case buildSlice t n ps =>
    cases hu : und C t <;> rw [hu] at hq <;> simp only [Bool.false_eq_true] at hq
    case slice e =>
      unfold buildSliceV at h ⊢
      simp only [hu, hq, if_true] at h ⊢
      split at h
      · rename_i hc
        rw [if_pos hc]
        split at h
        · cases h
        · split at h
          · rename_i hl
            rw [if_pos hl]
            exact map_swap rfl h
          · cases h
      · cases h
  case load t x => exact map_swap (loadV_congr (hO x (by simp))) h
  case nilCheck x =>
    split at h
    · rename_i o i f g he
      rw [live_congr (hO x (by simp) o (by rw [he]; rfl))]
      split at h
      · simp only [Option.some.injEq, Prod.mk.injEq] at h; rw [h.1]
      · cases h
    · simp only [Option.some.injEq, Prod.mk.injEq] at h; rw [h.1]
    · cases h
  case binOp op t x y ne => exact map_swap (binV_congr (hT t x (by simp)) (hT t y (by simp))) h
  case convert s d x => exact convV_at (hT s x (by simp)) h
  case slice t x lo hi mx =>
    split at h
    · rename_i hm
      rw [if_pos hm]
      exact map_swap (sliceV_congr (hT t x (by simp))) h
    · cases h
  case fieldAddr s x n => exact map_swap (fieldAddrV_congr (hO x (by simp))) h
  case indexAddr t x ix => exact map_swap (indexAddrV_congr (hO x (by simp))) h
  case lookup t x k ok => exact map_swap (lookupV_congr (hO x (by simp))) h
  case call c =>
    cases hc : c.callee with
    | builtin b =>
      rw [hc] at hq
      have hA : ∀ (l : List Operand) (ts : List TypeId), (∀ y ∈ l, y ∈ c.args) → ∀ a ∈ evalArgs C fr l ts, ∀ x, hd a = some x → H2[x]? = H[x]? := by
        intro l
        induction l with
        | nil => intro ts _ a ha; simp [evalArgs] at ha
        | cons y r ih =>
          intro ts hl a ha x hx'
          simp only [evalArgs, List.mem_cons] at ha
          have hy : y ∈ (Call.operands c) := by
            simp only [Call.operands, hc]
            exact Array.mem_append.2 (.inr (hl y (by simp)))
          rcases ha with rfl | ha
          · cases ts with
            | nil => exact hO y hy x hx'
            | cons t ts => exact hT t y hy x hx'
          · exact ih _ (fun z hz => hl z (by simp [hz])) a ha x hx'
      have hA' := hA c.args.toList c.argTypes.toList (fun y hy => Array.mem_toList_iff.1 hy)
      simp only [callV, hc] at h ⊢
      generalize evalArgs C fr c.args.toList c.argTypes.toList = args at h hA' ⊢
      cases b <;> simp only [Bool.false_eq_true] at hq
      all_goals
        cases hts : c.argTypes.toList with
        | nil => rw [hts] at h; simp [builtinV] at h
        | cons t ts =>
          rw [hts] at h
          cases args with
          | nil => simp [builtinV] at h
          | cons a r =>
            simp only [builtinV] at h ⊢
            first
            | (rw [lenV_congr (H := H) (hA' a (by simp))]
               cases hm : lenV C H t a with
               | none => rw [hm] at h; cases h
               | some z =>
                 rw [hm] at h
                 simp only [Option.map_some, Option.some.injEq, Prod.mk.injEq] at h
                 rw [← h.1]; rfl)
            | (rw [capV_congr (H := H) (hA' a (by simp))]
               cases hm : capV C H t a with
               | none => rw [hm] at h; cases h
               | some z =>
                 rw [hm] at h
                 simp only [Option.map_some, Option.some.injEq, Prod.mk.injEq] at h
                 rw [← h.1]; rfl)
    | value x => rw [hc] at hq; simp at hq
    | invoke r n => rw [hc] at hq; simp at hq

-- what is turned

/-- only objects of l turn -/
def Only (l : List Nat) (H H' : Heap) : Prop := H.length ≤ H'.length ∧ ∀ x, x < H.length → x ∉ l → H'[x]? = H[x]?

theorem Only.refl (l : List Nat) (H : Heap) : Only l H H := ⟨Nat.le_refl _, fun _ _ _ => rfl⟩

theorem Only.trans {l : List Nat} {A B D : Heap} (h : Only l A B) (k : Only l B D) : Only l A D :=
 ⟨Nat.le_trans h.1 k.1, fun x hx hl => (k.2 x (Nat.lt_of_lt_of_le hx h.1) hl).trans (h.2 x hx hl)⟩

theorem Only.push (l : List Nat) (H : Heap) (z : List (Option Obj)) : Only l H (H ++ z) :=
 ⟨by simp, fun x hx _ => by rw [List.getElem?_append_left hx]⟩

theorem Only.upd {l : List Nat} {H : Heap} {o : Nat} (h : o ∈ l) (z : Option Obj) : Only l H (upd H o z) := by
 refine ⟨by simp [AM.upd], fun x _ hl => ?_⟩
 have : o ≠ x := fun e => hl (e ▸ h)
 simp [AM.upd, List.getElem?_set_ne this]

theorem Only.mono {l l' : List Nat} {H H' : Heap} (h : Only l H H') (hl : ∀ x ∈ l, x ∈ l') : Only l' H H' := ⟨h.1, fun x hx hn => h.2 x hx fun hx' => hn (hl x hx')⟩

theorem freezeV_only {H H' : Heap} {a b : AV} (h : freezeV H a = some (b, H')) : Only (ids a) H H' := by
 unfold freezeV at h
 split at h
 ·split at h
  ·split at h
   ·cases h
   ·split at h
    ·simp only [Option.some.injEq, Prod.mk.injEq] at h
     obtain ⟨_, rfl⟩ := h
     exact Only.upd (by simp [ids]) _
    ·cases h
  ·cases h
 ·simp only [Option.some.injEq, Prod.mk.injEq] at h
  obtain ⟨_, rfl⟩ := h
  exact Only.refl _ _

theorem freezeL_only : ∀ {l l' : List AV} {H H' : Heap}, freezeL H l = some (l', H') → Only (idsL l) H H'
 | [], l', H, H', h => by
  simp only [freezeL, Option.some.injEq, Prod.mk.injEq] at h
  obtain ⟨_, rfl⟩ := h
  exact Only.refl _ _
 | a :: r, l', H, H', h => by
  simp only [freezeL] at h
  split at h
  ·rename_i b H1 h1
   split at h
   ·rename_i r' H2 h2
    simp only [Option.some.injEq, Prod.mk.injEq] at h
    obtain ⟨_, rfl⟩ := h
    exact ((freezeV_only h1).mono fun x hx => by simp [idsL, hx]).trans ((freezeL_only h2).mono fun x hx => by simp [idsL, hx])
   ·cases h
  ·cases h

theorem freezeP_only {H H' : Heap} {a b : AV} (h : freezeP H a = some (b, H')) : Only (ids a) H H' := by
 unfold freezeP at h
 split at h
 ·split at h
  ·rename_i l' H1 h1
   simp only [Option.some.injEq, Prod.mk.injEq] at h
   obtain ⟨_, rfl⟩ := h
   exact (freezeL_only h1).mono fun x hx => by simpa [ids] using hx
  ·cases h
 ·exact freezeV_only h

theorem freezePs_only : ∀ {l l' : List AV} {H H' : Heap}, freezePs H l = some (l', H') → Only (idsL l) H H'
 | [], l', H, H', h => by
  simp only [freezePs, Option.some.injEq, Prod.mk.injEq] at h
  obtain ⟨_, rfl⟩ := h
  exact Only.refl _ _
 | a :: r, l', H, H', h => by
  simp only [freezePs] at h
  split at h
  ·rename_i b H1 h1
   split at h
   ·rename_i r' H2 h2
    simp only [Option.some.injEq, Prod.mk.injEq] at h
    obtain ⟨_, rfl⟩ := h
    exact ((freezeP_only h1).mono fun x hx => by simp [idsL, hx]).trans ((freezePs_only h2).mono fun x hx => by simp [idsL, hx])
   ·cases h
  ·cases h

theorem storeV_only {H H' : Heap} {t : TypeId} {a v : AV} (h : storeV C H t a v = some H') : Only (ids a ++ ids v) H H' := by
 unfold storeV at h
 split at h
 ·rename_i o i f g
  have ho : ∀ (H : Heap) (z : Option Obj), Only (ids (.ptr o i f g) ++ ids v) H (upd H o z) := fun H z => Only.upd (by simp [ids]) z
  split at h
  ·cases h
  ·rename_i ob _
   split at h
   ·cases hp : putV C ob t i f v with
    | none => rw [hp] at h; cases h
    | some p =>
     rw [hp] at h
     simp only [Option.map_some, Option.some.injEq] at h
     subst h
     exact ho _ _
   ·split at h
    ·cases h
    ·rename_i v2 H2 h2
     have h3 := (freezeP_only h2).mono (l' := ids (.ptr o i f g) ++ ids v) fun x hx => by simp [hx]
     split at h
     ·cases h
     ·rename_i ob2 _
      split at h
      ·split at h
       ·cases h
       ·split at h
        ·cases h
        ·cases hp : putV C ob2 t i f v2 with
         | none => rw [hp] at h; cases h
         | some p =>
          rw [hp] at h
          simp only [Option.map_some, Option.some.injEq] at h
          subst h
          exact h3.trans (ho _ _)
      ·cases h
 ·cases h

theorem copyV_only {H H' : Heap} {t : TypeId} {s x v : AV} (h : copyV C H t s x = some (v, H')) : Only (ids s) H H' := by
 unfold copyV at h
 split at h
 ·split at h
  ·split at h
   ·split at h
    ·split at h
     ·simp only [Option.some.injEq, Prod.mk.injEq] at h
      obtain ⟨_, rfl⟩ := h
      exact Only.upd (by simp [ids]) _
     ·cases h
    ·cases h
   ·cases h
  ·cases h
 ·cases h

theorem appendV_only {H H' : Heap} {t : TypeId} {s x v : AV} (h : appendV C H t s x = some (v, H')) : Only (ids s) H H' := by
  unfold appendV at h
  repeat' (split at h)
  all_goals first
    | (cases h; done)
    | (simp only [Option.some.injEq, Prod.mk.injEq] at h
       obtain ⟨_, rfl⟩ := h
       first
       | exact Only.push _ _ _
       | exact Only.refl _ _
       | exact Only.upd (by simp [ids]) _)

theorem zeroAV_ids (t : TypeId) : ids (zeroAV C t) = [] := by
 unfold zeroAV
 split
 ·exact ofVal_ids _ _
 ·rfl

theorem setParts_ids {n : Nat} {S : List Nat} : ∀ {parts : List (Nat × AV)} {l l' : List AV}, setParts n l parts = some l' → (∀ a ∈ l, ∀ x ∈ ids a, x ∈ S) → (∀ p ∈ parts, ∀ x ∈ ids p.2, x ∈ S) → ∀ a ∈ l', ∀ x ∈ ids a, x ∈ S
 | [], l, l', h, hl, _ => by
  simp only [setParts, Option.some.injEq] at h
  subst h
  exact hl
 | (i, v) :: r, l, l', h, hl, hp => by
  simp only [setParts] at h
  split at h
  ·refine setParts_ids h (fun a ha x hx => ?_) fun p hp' => hp p (by simp [hp'])
   rcases List.mem_or_eq_of_mem_set ha with ha | rfl
   ·exact hl a ha x hx
   ·exact hp (i, a) (by simp) x hx
  ·cases h

theorem idsL_sub {S : List Nat} : ∀ {l : List AV}, (∀ a ∈ l, ∀ x ∈ ids a, x ∈ S) → ∀ x ∈ idsL l, x ∈ S
 | [], _, x, hx => by simp [idsL] at hx
 | a :: r, h, x, hx => by
  simp only [idsL, List.mem_append] at hx
  rcases hx with hx | hx
  ·exact h a (by simp) x hx
  ·exact idsL_sub (fun b hb => h b (by simp [hb])) x hx

theorem buildSliceV_only {H H' : Heap} {t : TypeId} {n : Nat} {parts : List (Nat × AV)} {v : AV} {S : List Nat} (hp : ∀ p ∈ parts, ∀ x ∈ ids p.2, x ∈ S) (h : buildSliceV C H t n parts = some (v, H')) : Only S H H' := by
 unfold buildSliceV at h
 split at h
 ·rename_i e _
  split at h
  ·split at h
   ·cases h
   ·rename_i l hl
    have hids : ∀ x ∈ idsL l, x ∈ S := by
     have h1 := setParts_ids (S := S) hl (fun a ha x hx => by
      have := (List.mem_replicate.1 ha).2
      subst this
      rw [zeroAV_ids] at hx
      cases hx) hp
     exact idsL_sub h1
    split at h
    ·simp only [Option.map_eq_some_iff, Prod.mk.injEq] at h
     obtain ⟨_, _, _, rfl⟩ := h
     exact Only.refl _ _
    ·split at h
     ·cases h
     ·split at h
      ·cases h
      ·rename_i l2 H2 h2
       have h3 := (freezePs_only h2).mono hids
       split at h
       ·simp only [Option.map_eq_some_iff, Prod.mk.injEq] at h
        obtain ⟨_, _, _, rfl⟩ := h
        exact h3
       ·simp only [Option.map_eq_some_iff, Prod.mk.injEq] at h
        obtain ⟨_, _, _, rfl⟩ := h
        exact h3.trans (Only.push _ _ _)
  ·cases h
 ·cases h

def CfOnly (C : Ctx) (cf : Cf) : Prop := ∀ f args H v H', cf f args H = some (v, H') → Only (touchCall C f args H) H H'

theorem strike_other : ∀ {l : List Nat} {B : Heap} {x : Nat}, x ∉ l → (strike l B)[x]? = B[x]?
 | [], _, _, _ => rfl
 | o :: r, B, x, h => by
  simp only [List.mem_cons, not_or] at h
  simp only [strike]
  rw [strike_other h.2, upd, List.getElem?_set_ne (Ne.symm h.1)]

theorem putBack_other {ρ : Nat → Nat → Option (Nat × Nat)} {τ : Nat → Nat} {H : Heap} {π : List Nat} {H1 : Heap} : ∀ {l : List Nat} {k : Nat} {B : Heap} {x : Nat}, x ∉ l → (putBack ρ τ H π H1 k l B)[x]? = B[x]?
 | [], _, _, _, _ => rfl
 | o :: r, k, B, x, h => by
  simp only [List.mem_cons, not_or] at h
  simp only [putBack]
  rw [putBack_other h.2, upd, List.getElem?_set_ne (Ne.symm h.1)]

theorem enterV_only (body : Cf) : CfOnly C (enterV C body) := by
 intro f args H v H' h
 unfold enterV at h
 split at h
 ·cases h
 ·rename_i as lents hl
  simp only at h
  split at h
  ·split at h
   ·cases h
   ·rename_i u H1 _
    unfold wrap at h
    simp only at h
    split at h
    ·simp only [Option.some.injEq, Prod.mk.injEq] at h
     obtain ⟨_, rfl⟩ := h
     refine ⟨by simp [strike_len, putBack_len], fun x hx hn => ?_⟩
     simp only [touchCall, hl, List.mem_append, not_or] at hn
     rw [List.getElem?_append_left (by rw [strike_len, putBack_len]; exact hx), strike_other, putBack_other hn.1]
     intro hm
     obtain ⟨t, _, ht⟩ := List.mem_flatMap.1 (List.mem_filter.1 hm).1
     unfold goneOf at ht
     split at ht
     ·simp at ht
     ·split at ht
      ·rename_i y hy
       have hy' := List.mem_of_getElem? hy
       rcases List.mem_append.1 hy' with hy' | hy'
       ·exact hn.2 (List.mem_flatMap.2 ⟨y, hy', ht⟩)
       ·simp only [List.mem_singleton] at hy'
        subst hy'
        simp at ht
      ·simp at ht
    ·cases h
  ·cases h

theorem callF_only : ∀ n, CfOnly C (callF C n)
 | 0 => by intro f args H v H' h; simp [callF] at h
 | n + 1 => enterV_only _

theorem updateV_only {H H' : Heap} {t : TypeId} {x k y : AV} (h : updateV C H t x k y = some H') : Only (ids x) H H' := by
 unfold updateV at h
 split at h
 ·cases h
 ·split at h
  ·split at h
   ·split at h
    ·split at h
     ·simp only [Option.some.injEq] at h
      subst h
      exact Only.upd (by simp [ids]) _
     ·simp only [Option.some.injEq] at h
      subst h
      exact Only.upd (by simp [ids]) _
     ·cases h
    ·cases h
   ·cases h
  ·cases h

theorem entryV_only {H H' : Heap} {t : TypeId} {x k v : AV} (h : entryV C H t x k = some (v, H')) : Only (ids x) H H' := by
 unfold entryV at h
 split at h
 ·cases h
 ·split at h
  ·split at h
   ·split at h
    ·split at h
     ·simp only [Option.some.injEq, Prod.mk.injEq] at h
      obtain ⟨_, rfl⟩ := h
      exact Only.refl _ _
     ·simp only [Option.some.injEq, Prod.mk.injEq] at h
      obtain ⟨_, rfl⟩ := h
      exact Only.upd (by simp [ids]) _
     ·cases h
    ·cases h
   ·cases h
  ·cases h

theorem entryStoreV_only {H H' : Heap} {x k y : AV} (h : entryStoreV H x k y = some H') : Only (ids x) H H' := by
 unfold entryStoreV at h
 split at h
 ·cases h
 ·split at h
  ·split at h
   ·split at h
    ·split at h
     ·split at h
      ·simp only [Option.some.injEq] at h
       subst h
       exact Only.upd (by simp [ids]) _
      ·cases h
     ·cases h
    ·cases h
   ·cases h
  ·cases h

theorem step_only (hcf : CfOnly C cf) {fr : Frame} {H H' : Heap} {o : Oper} {v : AV} (h : step C cf fr H o = some (v, H')) : Only (touched C fr H o) H H' := by
  have hO : ∀ y, y ∈ o.op.operands → ∀ x ∈ ids (evalO C fr y), x ∈ idsL (opVals C fr o) := fun y hy x h => opVals_ids hy h
  have hT : ∀ t y, y ∈ o.op.operands → ∀ x ∈ ids (evalT C fr t y), x ∈ idsL (opVals C fr o) := fun t y hy x h => opVals_ids hy (evalT_ids h)
  have keep : ∀ {m : Option AV} {l : List Nat}, (m.map fun v => (v, H)) = some (v, H') → Only l H H' := by
    intro m l hm
    cases m with
    | none => cases hm
    | some y =>
      simp only [Option.map_some, Option.some.injEq, Prod.mk.injEq] at hm
      obtain ⟨_, rfl⟩ := hm
      exact Only.refl _ _
  have self : ∀ {x : AV} {l : List Nat}, some (x, H) = some (v, H') → Only l H H' := by
    intro x l hm
    simp only [Option.some.injEq, Prod.mk.injEq] at hm
    obtain ⟨_, rfl⟩ := hm
    exact Only.refl _ _
  obtain ⟨dst, op, type, pos, after, guard⟩ := o
  have parts : ∀ (t : TypeId) (ps : List (Nat × Operand)), (∀ p ∈ ps, p.2 ∈ op.operands) → ∀ p ∈ evalParts C fr t ps, ∀ x ∈ ids p.2, x ∈ idsL (opVals C fr ⟨dst, op, type, pos, after, guard⟩) := by
    intro t ps
    induction ps with
    | nil => intro _ p hp; simp [evalParts] at hp
    | cons q r ih =>
      intro hq p hp
      simp only [evalParts, List.mem_cons] at hp
      rcases hp with rfl | hp
      · exact hT t q.2 (hq q (by simp))
      · exact ih (fun z hz => hq z (by simp [hz])) p hp
  cases op <;> simp only [step] at h <;> simp only [Op.operands] at hO hT parts
  case move x => exact self h
  case assign x =>
    simp only [Option.some.injEq] at h
    unfold assignV at h
    split at h
    · simp only [Prod.mk.injEq] at h
      obtain ⟨_, rfl⟩ := h
      exact Only.push _ _ _
    · simp only [Prod.mk.injEq] at h
      obtain ⟨_, rfl⟩ := h
      exact Only.refl _ _
  case pick c x y =>
    split at h
    · exact self h
    · cases h
  case alloc t =>
    cases hb : boxOf (zeroAV C t) with
    | none => rw [hb] at h; cases h
    | some p =>
      rw [hb] at h
      simp only [newBox, Option.map_some, Option.some.injEq, Prod.mk.injEq] at h
      obtain ⟨_, rfl⟩ := h
      exact Only.push _ _ _
  case box t x =>
    cases hb : boxOf (evalT C fr t x) with
    | none => rw [hb] at h; cases h
    | some p =>
      rw [hb] at h
      simp only [Option.bind_some] at h
      split at h
      · simp only [newBox, Option.some.injEq, Prod.mk.injEq] at h
        obtain ⟨_, rfl⟩ := h
        exact Only.push _ _ _
      · cases h
  case build t ps => exact keep h
  case buildSlice t n ps =>
    refine buildSliceV_only (parts _ _ fun p hp => ?_) h
    simp only [List.mem_toArray, List.mem_map]
    exact ⟨p, hp, rfl⟩
  case load t x => exact keep h
  case store t x y =>
    cases hs : storeV C H t (evalO C fr x) (evalT C fr t y) with
    | none => rw [hs] at h; cases h
    | some H1 =>
      rw [hs] at h
      simp only [Option.map_some, Option.some.injEq, Prod.mk.injEq] at h
      obtain ⟨_, rfl⟩ := h
      refine (storeV_only hs).mono fun z hz => ?_
      simp only [touched, calledV]
      rcases List.mem_append.1 hz with hz | hz
      · exact hO x (by simp) z hz
      · exact hT t y (by simp) z hz
  case nilCheck x =>
    split at h
    · split at h
      · exact self h
      · cases h
    · exact self h
    · cases h
  case binOp => exact keep h
  case unOp => exact keep h
  case convert s d x =>
    have key : ∀ r, convV C H s d (evalT C fr s x) = r → ∀ v H', r = some (v, H') → H' = H := by
      intro r hr v H' hv
      unfold convV at hr
      repeat' (split at hr)
      all_goals (subst hr; first | (cases hv; done) | (simp only [Option.some.injEq, Prod.mk.injEq] at hv; exact hv.2.symm))
    rw [key _ h _ _ rfl]
    exact Only.refl _ _
  case makeFunc fn first caps =>
    cases fn <;> simp only at h
    case func f =>
      split at h
      · exact self h
      · cases h
    all_goals cases h
  case makeMap t r =>
    split at h
    · simp only [newMap, Option.some.injEq, Prod.mk.injEq] at h
      obtain ⟨_, rfl⟩ := h
      exact Only.push _ _ _
    · cases h
  case insert t m k y =>
    cases hs : updateV C H t (evalO C fr m) (evalO C fr k) (evalT C fr (elemT C t) y) with
    | none => rw [hs] at h; cases h
    | some H1 =>
      rw [hs] at h
      simp only [Option.map_some, Option.some.injEq, Prod.mk.injEq] at h
      obtain ⟨_, rfl⟩ := h
      exact (updateV_only hs).mono fun z hz => hO m (by simp) z hz
  case mapUpdate t m k y =>
    cases hs : updateV C H t (evalO C fr m) (evalO C fr k) (evalT C fr (elemT C t) y) with
    | none => rw [hs] at h; cases h
    | some H1 =>
      rw [hs] at h
      simp only [Option.map_some, Option.some.injEq, Prod.mk.injEq] at h
      obtain ⟨_, rfl⟩ := h
      exact (updateV_only hs).mono fun z hz => hO m (by simp) z hz
  case mapEntry t m k => exact (entryV_only h).mono fun z hz => hO m (by simp) z hz
  case entryStore t m s y =>
    cases hs : entryStoreV H (evalO C fr m) (evalO C fr s) (evalT C fr type y) with
    | none => rw [hs] at h; cases h
    | some H1 =>
      rw [hs] at h
      simp only [Option.map_some, Option.some.injEq, Prod.mk.injEq] at h
      obtain ⟨_, rfl⟩ := h
      exact (entryStoreV_only hs).mono fun z hz => hO m (by simp) z hz
  case lookup => exact keep h
  case makeSlice t l c =>
    unfold makeSliceV at h
    repeat' (split at h)
    all_goals first
      | (cases h; done)
      | (simp only [Option.map_eq_some_iff, Prod.mk.injEq] at h
         obtain ⟨_, _, _, rfl⟩ := h
         exact Only.push _ _ _)
  case slice t x lo hi mx =>
    split at h
    · exact keep h
    · cases h
  case fieldAddr => exact keep h
  case field => exact keep h
  case indexAddr => exact keep h
  case index => exact keep h
  case extract t i =>
    split at h
    · exact keep h
    · cases h
  case call c =>
    cases hc : c.callee with
    | builtin b =>
      simp only [callV, hc] at h
      have hA : ∀ (l : List Operand) (ts : List TypeId), (∀ y ∈ l, y ∈ c.args) → ∀ a ∈ evalArgs C fr l ts, ∀ x ∈ ids a, x ∈ idsL (opVals C fr ⟨dst, .call c, type, pos, after, guard⟩) := by
        intro l
        induction l with
        | nil => intro ts _ a ha; simp [evalArgs] at ha
        | cons y r ih =>
          intro ts hl a ha x hx'
          simp only [evalArgs, List.mem_cons] at ha
          have hy : y ∈ (Call.operands c) := by
            simp only [Call.operands, hc]
            exact Array.mem_append.2 (.inr (hl y (by simp)))
          rcases ha with rfl | ha
          · cases ts with
            | nil => exact hO y hy x hx'
            | cons t ts => exact hT t y hy x hx'
          · exact ih _ (fun z hz => hl z (by simp [hz])) a ha x hx'
      have hA' := hA c.args.toList c.argTypes.toList (fun y hy => Array.mem_toList_iff.1 hy)
      simp only [touched, calledV, hc]
      generalize evalArgs C fr c.args.toList c.argTypes.toList = args at h hA'
      have keepI : ∀ {m : Option Int}, (m.map fun n => (AV.int .i64 n, H)) = some (v, H') → Only (idsL (opVals C fr ⟨dst, .call c, type, pos, after, guard⟩)) H H' := by
        intro m hm
        cases m with
        | none => cases hm
        | some y =>
          simp only [Option.map_some, Option.some.injEq, Prod.mk.injEq] at hm
          obtain ⟨_, rfl⟩ := hm
          exact Only.refl _ _
      unfold builtinV at h
      split at h
      · exact keepI h
      · exact keepI h
      · split at h
        · rename_i s x _ _
          exact (appendV_only h).mono fun z hz => hA' _ (by simp) z hz
        · cases h
      · rename_i s x
        exact (copyV_only h).mono fun z hz => hA' _ (by simp) z hz
      · exact keep h
      · exact keep h
      · cases h
    | value x =>
      simp only [callV, hc] at h
      split at h
      · rename_i f caps he
        split at h
        · simp only [touched, calledV, hc, he]
          exact hcf _ _ _ _ _ h
        · cases h
      · cases h
    | invoke r n => simp only [callV, hc] at h; cases h
  all_goals cases h

end

end Go.AM

/- Calls and a new object: whatever object is laid behind the heap, a call that does not see it goes on as it did. -/
namespace Go.AM

/-- the same but for the object n -/
def But (n : Nat) (H H2 : Heap) : Prop := ∀ o, o ≠ n → H2[o]? = H[o]?

theorem But.push (H : Heap) (ob : Option Obj) : But H.length H (H ++ [ob]) := by
 intro o ho
 by_cases h : o < H.length
 ·rw [List.getElem?_append_left h]
 ·rw [List.getElem?_eq_none (by simp; omega), List.getElem?_eq_none (by omega)]

theorem But.pop (H : Heap) (ob : Option Obj) : But H.length (H ++ [ob]) H := fun o ho => (But.push H ob o ho).symm

section
variable {n : Nat} {H H2 : Heap}

theorem reach_acc : ∀ (k : Nat) (l acc : List Nat) (x : Nat), x ∈ acc → x ∈ reach H k l acc
 | 0, _, _, _, h => h
 | k + 1, [], _, _, h => h
 | k + 1, o :: r, acc, x, h => by
  simp only [reach]
  split
  ·exact reach_acc k r acc x h
  ·split
   ·exact reach_acc k _ _ x (by simp [h])
   ·exact reach_acc k r acc x h

theorem reach_but (hb : But n H H2) : ∀ (k : Nat) (l acc : List Nat), n ∉ l → (∀ o ∈ reach H k l acc, n ∉ idsAt H o) → reach H2 k l acc = reach H k l acc
 | 0, _, _, _, _ => rfl
 | k + 1, [], _, _, _ => rfl
 | k + 1, o :: r, acc, hl, hr => by
  simp only [List.mem_cons, not_or] at hl
  simp only [reach] at hr ⊢
  split
  ·rename_i hc
   rw [if_pos hc] at hr
   exact reach_but hb k r acc hl.2 hr
  ·rename_i hc
   rw [if_neg hc] at hr
   rw [hb o (Ne.symm hl.1)]
   split
   ·rename_i ob ho
    rw [ho] at hr
    simp only at hr
    have hm := hr o (reach_acc k _ _ o (by simp))
    simp only [idsAt, ho] at hm
    refine reach_but hb k _ _ ?_ hr
    split
    ·simp only [List.mem_append, not_or]
     exact ⟨hm, hl.2⟩
    ·simpa using hl.2
   ·rename_i hx
    split at hr
    ·rename_i ob ho
     exact absurd ho (hx ob)
    ·exact reach_but hb k r acc hl.2 hr

theorem live_but (hb : But n H H2) {o g : Nat} (ho : o ≠ n) : live H2 o g = live H o g := live_congr (hb o ho) g

theorem obAt_but (hb : But n H H2) {o : Nat} (ho : o ≠ n) : obAt H2 o = obAt H o := by simp only [obAt, hb o ho]

theorem lend1_but (hb : But n H H2) {t : Nat} {a : AV} (h : n ∉ ids a) : lend1 H2 t a = lend1 H t a := by
 cases a <;> try rfl
 case sl o off len g =>
  simp only [ids, List.mem_singleton] at h
  simp only [lend1, live_but hb (Ne.symm h)]

theorem lendL_but (hb : But n H H2) {t : Nat} : ∀ {l : List AV}, n ∉ idsL l → lendL H2 t l = lendL H t l
 | [], _ => rfl
 | a :: r, h => by
  simp only [idsL, List.mem_append, not_or] at h
  simp only [lendL, lend1_but hb h.1, lendL_but hb h.2]

theorem lendV_but (hb : But n H H2) {t : Nat} {a : AV} (h : n ∉ ids a) : lendV H2 t a = lendV H t a := by
 unfold lendV
 split
 ·simp only [ids] at h
  rw [lendL_but hb h]
 ·simp only [ids] at h
  rw [lendL_but hb h]
 ·exact lend1_but hb h

variable {C : Ctx}

theorem lendArgs_but (hb : But n H H2) {f : Nat} : ∀ {args : List AV} {i : Nat}, n ∉ idsL args → lendArgs C f H2 i args = lendArgs C f H i args
 | [], _, _ => rfl
 | a :: r, i, h => by
  simp only [idsL, List.mem_append, not_or] at h
  simp only [lendArgs, lendV_but hb h.1, lendArgs_but hb h.2]

theorem mention_but (hb : But n H H2) {f : Nat} {args : List AV} (h : n ∉ mentionCall C f args H) :
  lendArgs C f H2 0 args = lendArgs C f H 0 args ∧ touchCall C f args H2 = touchCall C f args H ∧ mentionCall C f args H2 = mentionCall C f args H ∧
  ∀ as lents, lendArgs C f H 0 args = some (as, lents) → n ∉ idsL as ∧ (∀ o ∈ reach H reachFuel (idsL as) [], o ≠ n ∧ n ∉ idsAt H o) ∧ n ∉ lents.flatMap (·.objs) ∧ reach H2 reachFuel (idsL as) [] = reach H reachFuel (idsL as) [] := by
 unfold mentionCall at h
 rw [List.mem_append, not_or] at h
 have e1 := lendArgs_but (C := C) hb (f := f) (i := 0) h.1
 cases hl : lendArgs C f H 0 args with
 | none => exact ⟨by rw [e1, hl], by simp only [touchCall, e1, hl], by simp only [mentionCall, e1, hl], fun as lents e => by cases e⟩
 | some r =>
  obtain ⟨as, lents⟩ := r
  rw [hl] at h e1
  simp only [List.mem_append, not_or] at h
  obtain ⟨_, h1, h2, h3, h4⟩ := h
  have h5 : ∀ o ∈ reach H reachFuel (idsL as) [], n ∉ idsAt H o := fun o ho hn => h4 (List.mem_flatMap.2 ⟨o, ho, hn⟩)
  have e2 := reach_but hb reachFuel (idsL as) [] h1 h5
  have e3 : (reach H reachFuel (idsL as) []).flatMap (idsAt H2) = (reach H reachFuel (idsL as) []).flatMap (idsAt H) := by
   have : ∀ (L : List Nat), n ∉ L → L.flatMap (idsAt H2) = L.flatMap (idsAt H) := by
    intro L
    induction L with
    | nil => intro _; rfl
    | cons x L ih =>
     intro hx
     simp only [List.mem_cons, not_or] at hx
     simp only [List.flatMap_cons, ih hx.2]
     simp only [idsAt, hb x (Ne.symm hx.1)]
   exact this _ h2
  refine ⟨e1, by simp only [touchCall, e1, hl, e2], by simp only [mentionCall, e1, hl, e2, e3], fun as' lents' e => ?_⟩
  simp only [Option.some.injEq, Prod.mk.injEq] at e
  obtain ⟨rfl, rfl⟩ := e
  exact ⟨h1, fun o ho => ⟨fun e => h2 (e ▸ ho), h5 o ho⟩, h3, e2⟩

mutual
theorem ren_but {ρ ρ' : Nat → Nat → Option (Nat × Nat)} {τ : Nat → Nat} (h : ∀ o g, o ≠ n → ρ' o g = ρ o g) : (v : AV) → n ∉ ids v → ren ρ' τ v = ren ρ τ v
 | .ptr o i f g, hv => by
  simp only [ids, List.mem_singleton] at hv
  simp only [ren, h o g (Ne.symm hv)]
 | .sl o a b g, hv => by
  simp only [ids, List.mem_singleton] at hv
  simp only [ren, h o g (Ne.symm hv)]
 | .map o g, hv => by
  simp only [ids, List.mem_singleton] at hv
  simp only [ren, h o g (Ne.symm hv)]
 | .agg p, hv => by simp only [ids] at hv; simp only [ren, ren_but h p hv]
 | .tup l, hv => by simp only [ids] at hv; simp only [ren, renL_but h l hv]
 | .fn f l, hv => by simp only [ids] at hv; simp only [ren, renL_but h l hv]
 | .pc l, hv => by simp only [ids] at hv; simp only [ren, renL_but h l hv]
 | .pr e l, hv => by simp only [ids] at hv; simp only [ren, renL_but h l hv]
 | .pm l, hv => by simp only [ids] at hv; simp only [ren, renL_but h l hv]
 | .top, _ => rfl
 | .bool _, _ => rfl
 | .int _ _, _ => rfl
 | .str _, _ => rfl
 | .nilptr, _ => rfl
 | .rptr .., _ => rfl
 | .ro .., _ => rfl
 | .nilfn, _ => rfl
 | .nilmap, _ => rfl
 | .pn, _ => rfl
 | .pb _, _ => rfl
 | .pi _ _, _ => rfl
theorem renL_but {ρ ρ' : Nat → Nat → Option (Nat × Nat)} {τ : Nat → Nat} (h : ∀ o g, o ≠ n → ρ' o g = ρ o g) : (l : List AV) → n ∉ idsL l → renL ρ' τ l = renL ρ τ l
 | [], _ => rfl
 | a :: r, hv => by
  simp only [idsL, List.mem_append, not_or] at hv
  simp only [renL, ren_but h a hv.1, renL_but h r hv.2]
end

end

theorem set_push {B : Heap} {ob x : Option Obj} {o : Nat} (h : o ≠ B.length) : (B ++ [ob]).set o x = B.set o x ++ [ob] := by
 rw [List.set_append]
 split
 ·rfl
 ·rename_i hlt
  obtain ⟨k, hk⟩ : ∃ k, o - B.length = k + 1 := ⟨o - B.length - 1, by omega⟩
  have e : B.set o x = B := List.set_eq_of_length_le (by omega)
  rw [hk, e]
  rfl

theorem strike_push {ob : Option Obj} : ∀ {l : List Nat} {B : Heap}, B.length ∉ l → strike l (B ++ [ob]) = strike l B ++ [ob]
 | [], _, _ => rfl
 | o :: r, B, h => by
  simp only [List.mem_cons, not_or] at h
  simp only [List.filter_nil, strike, upd]
  rw [set_push (Ne.symm h.1), strike_push (by simpa using h.2)]

theorem putBack_push {ρ : Nat → Nat → Option (Nat × Nat)} {τ : Nat → Nat} {H H2 : Heap} {π : List Nat} {H1 : Heap} {ob : Option Obj}
  (hg : ∀ k g, genBack H2 π k g = genBack H π k g) : ∀ {l : List Nat} {k : Nat} {B : Heap}, B.length ∉ l → putBack ρ τ H2 π H1 k l (B ++ [ob]) = putBack ρ τ H π H1 k l B ++ [ob]
 | [], _, _, _ => rfl
 | o :: r, k, B, h => by
  simp only [List.mem_cons, not_or] at h
  simp only [putBack, upd, hg]
  rw [set_push (Ne.symm h.1), putBack_push hg (by simpa using h.2)]

theorem genBack_push {H : Heap} {ob : Option Obj} {π : List Nat} (h : H.length ∉ π) (k g : Nat) : genBack (H ++ [ob]) π k g = genBack H π k g := by
 unfold genBack
 cases hk : π[k]? with
 | none => rfl
 | some o =>
  have : o ≠ H.length := fun e => h (e ▸ List.mem_of_getElem? hk)
  simp only [obAt_but (But.push H ob) this]

theorem backN_push {H : Heap} {ob : Option Obj} {π : List Nat} {H1 : Heap} (h : H.length ∉ π) : backN (H ++ [ob]) π [] H1 = backN H π [] H1 := by
 funext o g
 unfold backN
 split
 ·split
  ·simp only [genBack_push h]
  ·rfl
 ·rfl

/-- what comes back of a call that leaves nothing new -/
theorem wrap_push {H : Heap} {π : List Nat} {lents : List Lent} {v : AV} {H1 : Heap} {ob : Option Obj} (hπ : H.length ∉ π) (hl : H.length ∉ lents.flatMap (·.objs)) :
  (∀ u H', wrap H π lents v H1 = some (u, H') → H'.length = H.length → wrap (H ++ [ob]) π lents v H1 = some (u, H' ++ [ob])) ∧
  (∀ u H2, wrap (H ++ [ob]) π lents v H1 = some (u, H2) → H2.length = H.length + 1 → ∃ H', H2 = H' ++ [ob] ∧ H'.length = H.length ∧ wrap H π lents v H1 = some (u, H')) := by
 unfold wrap
 simp only
 generalize hnew : (reach H1 reachFuel (List.range π.length ++ ids v) []).filter (fun o => decide (π.length ≤ o)) = new
 have hgone : ∀ (L : List Nat) (q : Nat → Bool), H.length ∉ (L.flatMap (goneOf lents)).filter q := by
  intro L q hm
  obtain ⟨t, _, ht⟩ := List.mem_flatMap.1 (List.mem_filter.1 hm).1
  unfold goneOf at ht
  split at ht
  ·simp at ht
  ·split at ht
   ·rename_i y hy
    exact hl (List.mem_flatMap.2 ⟨y, List.mem_of_getElem? hy, ht⟩)
   ·simp at ht
 split
 ·cases new with
  | nil =>
   have key : strike (((tags v ++ tagsObjs ((List.range π.length).map (obAt H1)) ++ tagsObjs ([].map (obAt H1))).flatMap (goneOf lents)).filter fun o => ((tagsN v ++ tagsObjsN ((List.range π.length).map (obAt H1)) ++ tagsObjsN ([].map (obAt H1))).flatMap (goneOf lents)).contains o) (putBack (backN (H ++ [ob]) π [] H1) (backT lents) (H ++ [ob]) π H1 0 π (H ++ [ob])) =
     strike (((tags v ++ tagsObjs ((List.range π.length).map (obAt H1)) ++ tagsObjs ([].map (obAt H1))).flatMap (goneOf lents)).filter fun o => ((tagsN v ++ tagsObjsN ((List.range π.length).map (obAt H1)) ++ tagsObjsN ([].map (obAt H1))).flatMap (goneOf lents)).contains o) (putBack (backN H π [] H1) (backT lents) H π H1 0 π H) ++ [ob] := by
    rw [backN_push hπ, putBack_push (genBack_push hπ) hπ, strike_push]
    rw [putBack_len]
    exact hgone _ _
   constructor
   ·intro u H' h _
    simp only [Option.some.injEq, Prod.mk.injEq, List.map_nil, List.append_nil] at h ⊢
    obtain ⟨rfl, rfl⟩ := h
    simp only [List.map_nil] at key
    exact ⟨by rw [backN_push hπ], key⟩
   ·intro u H2 h _
    simp only [Option.some.injEq, Prod.mk.injEq, List.map_nil, List.append_nil] at h ⊢
    simp only [List.map_nil] at key
    obtain ⟨rfl, rfl⟩ := h
    exact ⟨_, key, by rw [strike_len, putBack_len], by rw [backN_push hπ], rfl⟩
  | cons x r =>
   constructor
   ·intro u H' h hlen
    simp only [Option.some.injEq, Prod.mk.injEq] at h
    obtain ⟨_, rfl⟩ := h
    simp [strike_len, putBack_len] at hlen
   ·intro u H2 h hlen
    simp only [Option.some.injEq, Prod.mk.injEq] at h
    obtain ⟨_, rfl⟩ := h
    simp [strike_len, putBack_len] at hlen
 ·exact ⟨fun u H' h => by simp at h, fun u H2 h => by simp at h⟩

section
variable {C : Ctx}

/-- a call that makes nothing new does not mind an object that it does not see -/
def CfPush (C : Ctx) (cf : Cf) : Prop := ∀ f args H v H', cf f args H = some (v, H') → H'.length = H.length →
 (∀ ob, H.length ∉ mentionCall C f args H → cf f args (H ++ [ob]) = some (v, H' ++ [ob])) ∧
 (∀ H0 ob, H = H0 ++ [ob] → H0.length ∉ mentionCall C f args H → ∃ H0', H' = H0' ++ [ob] ∧ H0'.length = H0.length ∧ cf f args H0 = some (v, H0'))

/-- a call, up to what comes back of it -/
theorem enterV_but (body : Cf) {n : Nat} {H H2 : Heap} (hb : But n H H2) {f : Nat} {args : List AV} (h : n ∉ mentionCall C f args H) {r : AV × Heap} (hr : enterV C body f args H = some r) :
  ∃ π lents v H1, wrap H π lents v H1 = some r ∧ n ∉ π ∧ n ∉ lents.flatMap (·.objs) ∧ enterV C body f args H2 = wrap H2 π lents v H1 := by
 obtain ⟨e1, _, _, h4⟩ := mention_but (C := C) hb h
 unfold enterV at hr ⊢
 rw [e1]
 split at hr
 ·cases hr
 ·rename_i as lents hl
  obtain ⟨h5, h6, h7, h8⟩ := h4 as lents hl
  simp only at hr ⊢
  rw [h8]
  generalize hπ : reach H reachFuel (idsL as) [] = π at hr h6 ⊢
  have hnπ : n ∉ π := fun hm => (h6 n hm).1 rfl
  have hin : ∀ o g, o ≠ n → intoN H2 π o g = intoN H π o g := fun o g ho => by simp only [intoN, live_but hb ho]
  have hat : ∀ o ∈ π, obAt H2 o = obAt H o := fun o ho => obAt_but hb (h6 o ho).1
  have e3 : π.map (obAt H2) = π.map (obAt H) := List.map_congr_left hat
  have e4 : (π.map fun o => (obAt H2 o).map (renObj (intoN H2 π) (fun _ => as.length + 1) 0)) = π.map fun o => (obAt H o).map (renObj (intoN H π) (fun _ => as.length + 1) 0) := by
   refine List.map_congr_left fun o ho => ?_
   rw [hat o ho]
   cases hx : obAt H o with
   | none => rfl
   | some ob =>
    have hids : n ∉ ids ob.p := by
     have := (h6 o ho).2
     unfold idsAt at this
     unfold obAt at hx
     cases hy : H[o]? with
     | none => rw [hy] at hx; cases hx
     | some z =>
      rw [hy] at hx this
      simp only [Option.getD_some] at hx
      subst hx
      exact this
    simp only [Option.map_some, renObj, ren_but hin ob.p hids]
  rw [e3, e4, renL_but hin as h5]
  split at hr
  ·rename_i hc
   rw [if_pos hc]
   split at hr
   ·cases hr
   ·rename_i v H1 hbd
    refine ⟨π, _, v, H1, hr, hnπ, ?_, rfl⟩
    simpa using h7
  ·cases hr

theorem enterV_push (body : Cf) : CfPush C (enterV C body) := by
 intro f args H v H' h hlen
 constructor
 ·intro ob hn
  obtain ⟨π, lents, u, H1, h1, h2, h3, h4⟩ := enterV_but (C := C) body (But.push H ob) hn h
  rw [h4]
  exact (wrap_push h2 h3).1 v H' h1 hlen
 ·intro H0 ob he hn
  subst he
  obtain ⟨π, lents, u, H1, h1, h2, h3, h4⟩ := enterV_but (C := C) body (But.pop H0 ob) hn h
  rw [h4]
  exact (wrap_push h2 h3).2 v H' h1 (by simpa using hlen)

theorem callF_push : ∀ n, CfPush C (callF C n)
 | 0 => by intro f args H v H' h; simp [callF] at h
 | n + 1 => enterV_push _

def CfTouch (C : Ctx) (cf : Cf) : Prop := CfOnly C cf ∧ CfPush C cf

theorem callF_touch (n : Nat) : CfTouch C (callF C n) := ⟨callF_only n, callF_push n⟩

end

end Go.AM

/- Running: a call of a function value, a region in its order, what is left of the state behind it. -/
namespace Go.AM

/-- where a body's run stands: since it began at K0, with m objects -/
def Now (C : Ctx) (T : Nat → Nat → Prop) (m : Nat) (K0 : Kx) (nt : Nat) (fr : Frame) (H : Heap) (a : Act) (w : World) : Prop :=
 ∃ μ, Inv C ⟨μ, H, w⟩ T ∧ Evo T m K0 ⟨μ, H, w⟩ ∧ FRel ⟨μ, H, w⟩ T fr a.tmps ∧ nt ≤ a.tmps.size ∧ a.defers = []

section
variable {C : Ctx} {T : Nat → Nat → Prop} {m nt : Nat} {K0 : Kx} {fr : Frame} {H : Heap} {a : Act} {w : World}

theorem put_size (a : Act) (d : Option Nat) (v : Value) : (a.put d v).tmps.size = a.tmps.size := by
 cases d <;> simp [Act.put]

theorem put_defers (a : Act) (d : Option Nat) (v : Value) : (a.put d v).defers = a.defers := by
 cases d <;> rfl

theorem Now.put {μ μ' : Nat → Pl} {H' : Heap} {w' : World} {x : AV} {v : Value} {d : Option Nat} (hE0 : Evo T m K0 ⟨μ, H, w⟩) (hf : FRel ⟨μ, H, w⟩ T fr a.tmps) (hn : nt ≤ a.tmps.size) (hd : a.defers = [])
  (hI : Inv C ⟨μ', H', w'⟩ T) (hE : Evo T H.length ⟨μ, H, w⟩ ⟨μ', H', w'⟩) (hv : VRel ⟨μ', H', w'⟩ T x v) (hdst : dstOk nt d = true) :
  Now C T m K0 nt (putF fr d x) H' (a.put d v) w' := by
 refine ⟨μ', hI, hE0.trans hE hE0.len, FRel.put (FRel.evo hE (Nat.le_refl _) hf) hv (fun i hi => ?_), by rw [put_size]; exact hn, by rw [put_defers]; exact hd⟩
 subst hi
 simp only [dstOk, decide_eq_true_eq] at hdst
 omega

theorem undef_rel (K : Kx) (T : Nat → Nat → Prop) : VRel K T (.tup []) undef := by
 simp only [VRel, undef]
 exact ⟨#[], rfl, rfl, by simp⟩

theorem wanted_ok {ops : Array Oper} {o : Oper} {d : Bool} {K : Kx} (hf : FRel K T fr a.tmps) (h : wantedV ops fr o = some d) : Region.wanted o (yielded ops a.tmps) = d := by
 unfold wantedV at h
 unfold Region.wanted
 cases hg : o.guard with
 | none =>
  rw [hg] at h
  simp only [Option.some.injEq] at h
  exact h
 | some x =>
  obtain ⟨j, want⟩ := x
  rw [hg] at h
  simp only at h ⊢
  unfold yielded
  cases hd : (ops[j]?).bind (·.dst) with
  | none => rw [hd] at h; cases h
  | some t =>
   rw [hd] at h
   simp only [Option.bind_some] at h ⊢
   have hv := hf t
   rw [Array.getD_eq_getD_getElem?] at hv
   split at h
   ·rename_i b hb
    simp only [Option.some.injEq] at h
    subst h
    rw [hb] at hv
    simp only [VRel, V1Rel, SRel, RV] at hv
    cases ht : a.tmps[t]? with
    | none => rw [ht] at hv; simp [undef] at hv
    | some v =>
     rw [ht] at hv
     simp only [Option.getD_some] at hv
     subst hv
     simp only
     cases b <;> cases want <;> rfl
   ·rename_i hb
    simp only [Option.some.injEq] at h
    subst h
    rw [hb] at hv
    simp only [VRel] at hv
    obtain ⟨vs, h1, _, _⟩ := hv
    cases ht : a.tmps[t]? with
    | none => simp
    | some v =>
     rw [ht] at h1
     simp only [Option.getD_some] at h1
     subst h1
     simp
   ·cases h

theorem run_callFunc {P : Program} {f : FuncId} {fn : Func} (hF : P.funcs[f]? = some fn) (hname : (fn.name == "runtime.NumGoroutine") = false) (hb : fn.body.isNone = false) (args : Array Value) (w : World) :
  (callFunc f args).run P w = .ok (.enter f args) w := by
 simp only [callFunc, Sem.run_bind, run_program, Result.andThen_ok, hF, hname, hb, Bool.false_eq_true, if_false]
 rfl

/-- a step's outcome, and what may follow -/
theorem step_upon {cf : Cf} (hcf : CfOk C cf) {P : Program} (hP : P = C.P) {o : Oper} {x : AV} {H' : Heap} (h : step C cf fr H o = some (x, H')) (hN : Now C T m K0 nt fr H a w) (hdst : dstOk nt o.dst = true)
  {next : Act → World → Prop} {Q : Exit → Act → World → Prop} (hnext : ∀ v w', Now C T m K0 nt (putF fr o.dst x) H' (a.put o.dst v) w' → next (a.put o.dst v) w') :
  o.wp P a w next Q := by
 subst hP
 obtain ⟨μ, hI, hE0, hf, hn, hd⟩ := hN
 unfold Oper.wp
 by_cases hfn : isFn o.op = true
 ·obtain ⟨dst, op, type, pos, after, guard⟩ := o
  cases op <;> simp only [isFn, Bool.false_eq_true] at hfn
  case call c =>
   have hce : ∃ fx, c.callee = .value fx := by
    cases hc : c.callee <;> rw [hc] at hfn <;> simp at hfn
    exact ⟨_, rfl⟩
   obtain ⟨fx, hce⟩ := hce
   simp only [step, callV, hce] at h
   split at h
   ·rename_i f caps hev
    split at h
    ·rename_i hbod
     have hfv := evalO_v hI hf fx
     rw [hev] at hfv
     simp only [VRel, V1Rel] at hfv
     obtain ⟨vs, hvs, hlen, hcap⟩ := hfv
     have hargs : ArgsRel ⟨μ, H, w⟩ T (evalArgs C fr c.args.toList (paramsOf C f) ++ caps) ((c.args.map a.eval) ++ vs).toList := by
      have h1 := evalArgs_rel hI hf c.args.toList (paramsOf C f)
      have h2 : ∀ (l : List AV) (us : List Value) , us.length = l.length → (∀ (j : Nat) (a : AV), l[j]? = some a → ∃ u, us[j]? = some u ∧ SRel ⟨μ, H, w⟩ T a u) → ArgsRel ⟨μ, H, w⟩ T l us := by
       intro l
       induction l with
       | nil => intro us hl _; cases us with
        | nil => trivial
        | cons => simp at hl
       | cons b r ih =>
        intro us hl hj
        cases us with
        | nil => simp at hl
        | cons u us =>
         refine ⟨?_, ih us (by simpa using hl) (fun j c hc => by simpa using hj (j + 1) c (by simpa using hc))⟩
         obtain ⟨u', h3, h4⟩ := hj 0 b rfl
         simp only [List.getElem?_cons_zero, Option.some.injEq] at h3
         subst h3
         exact (V1Rel.s h4).v
      have h3 : ∀ (l : List AV) (us : List Value) (l' : List AV) (us' : List Value), ArgsRel ⟨μ, H, w⟩ T l us → ArgsRel ⟨μ, H, w⟩ T l' us' → ArgsRel ⟨μ, H, w⟩ T (l ++ l') (us ++ us') := by
       intro l
       induction l with
       | nil => intro us l' us' h h'; rw [h.nil]; exact h'
       | cons b r ih =>
        intro us l' us' h h'
        obtain ⟨v, s, rfl, h4, h5⟩ := h.cons
        exact ⟨h4, ih s l' us' h5 h'⟩
      rw [Array.toList_append, Array.toList_map]
      exact h3 _ _ _ _ h1 (h2 _ _ (by simpa using hlen) (fun j b hb => by obtain ⟨u, h4, h5⟩ := hcap j b hb; exact ⟨u, by simpa using h4, h5⟩))
     have hcalls := hcf f _ H x H' h ⟨μ, H, w⟩ T _ rfl hI hargs
     have hrun : (execOp a.eval ⟨dst, .call c, type, pos, after, guard⟩).run C.P w = .ok (.enter f ((c.args.map a.eval) ++ vs)) w := by
      unfold bodied at hbod
      cases hF : C.P.funcs[f]? with
      | none => rw [hF] at hbod; simp at hbod
      | some fn =>
       rw [hF] at hbod
       simp only [Option.map_some, Option.getD_some, Bool.and_eq_true, bne_iff_ne, ne_eq] at hbod
       have hb1 : fn.body.isNone = false := by
        cases hb : fn.body with
        | none => rw [hb] at hbod; simp at hbod
        | some => rfl
       have hname : (fn.name == "runtime.NumGoroutine") = false := by simpa using hbod.2
       simp only [execOp, resolve, hce, hvs, Deferred.ofValue, Sem.run_bind, Sem.run_pure, Result.andThen_ok, invoke, Array.empty_append]
       exact run_callFunc hF hname hb1 _ _
     rw [hrun, Oper.upon_enter]
     refine Calls.mono hcalls fun e w' he => ?_
     cases e with
     | returned v =>
      obtain ⟨μ', h1, h2, h3⟩ := he
      exact hnext v w' (Now.put hE0 hf hn hd h1 h2 h3 hdst)
     | panicked => exact he.elim
     | outgrown => exact he.elim
    ·cases h
   ·cases h
 ·have hr := step_ok hI hf (by simpa using hfn) h
  simp only at hr
  revert hr
  generalize (execOp a.eval o).run C.P w = r
  intro hr
  unfold Res at hr
  split at hr
  ·obtain ⟨μ', h1, h2, h3⟩ := hr
   rw [Oper.upon_value]
   exact hnext _ _ (Now.put hE0 hf hn hd h1 h2 h3 hdst)
  ·obtain ⟨μ', h1, h2, h3⟩ := hr
   rw [Oper.upon_skip]
   exact hnext _ _ (Now.put hE0 hf hn hd h1 h2 h3 hdst)
  ·exact hr.elim

theorem skip_now {d : Option Nat} (hN : Now C T m K0 nt fr H a w) (hdst : dstOk nt d = true) : Now C T m K0 nt (putF fr d (.tup [])) H (a.put d undef) w := by
 obtain ⟨μ, hI, hE0, hf, hn, hd⟩ := hN
 exact Now.put hE0 hf hn hd hI (Evo.refl T _ (Nat.le_refl _)) (undef_rel _ _) hdst

theorem runOps_ok {cf : Cf} (hcf : CfOk C cf) {ops : Array Oper} {Q : Exit → Act → World → Prop} : ∀ (l : List Oper) (i : Nat) {fr : Frame} {H : Heap} {a : Act} {w : World} {fr' : Frame} {H' : Heap}, ops.toList.drop i = l →
  runOps C cf nt ops l fr H = some (fr', H') → Now C T m K0 nt fr H a w → (∀ a' w', Now C T m K0 nt fr' H' a' w' → Q .normal a' w') → wpOps C.P ops Q (List.range' i l.length) a w
 | [], i, fr, H, a, w, fr', H', hl, h, hN, hQ => by
  simp only [runOps, Option.some.injEq, Prod.mk.injEq] at h
  obtain ⟨rfl, rfl⟩ := h
  exact hQ a w hN
 | o :: r, i, fr, H, a, w, fr', H', hl, h, hN, hQ => by
  have hi : ops[i]? = some o := by
   rw [← Array.getElem?_toList]
   have : (ops.toList.drop i)[0]? = some o := by rw [hl]; rfl
   simpa using this
  have hl' : ops.toList.drop (i + 1) = r := by
   have := congrArg List.tail hl
   simpa [List.tail_drop] using this
  simp only [List.length_cons, List.range'_succ]
  rw [wpOps_cons]
  unfold wpOp
  rw [hi]
  simp only
  simp only [runOps] at h
  split at h
  ·rename_i hdst
   split at h
   ·rename_i hw
    obtain ⟨μ, hI, hE0, hf, hn, hd⟩ := id hN
    rw [wanted_ok hf hw]
    simp only [if_true]
    split at h
    ·rename_i v H1 hs
     left
     exact step_upon hcf rfl hs hN hdst fun u w' hN' => runOps_ok hcf r (i + 1) hl' h hN' hQ
    ·cases h
   ·rename_i hw
    obtain ⟨μ, hI, hE0, hf, hn, hd⟩ := id hN
    rw [wanted_ok hf hw]
    simp only [Bool.false_eq_true, if_false]
    exact runOps_ok hcf r (i + 1) hl' h (skip_now hN hdst) hQ
   ·cases h
  ·cases h

end

end Go.AM

/- What cannot be reached goes; frames cut. -/
namespace Go.AM

theorem getF_ren (ρ : Nat → Nat → Option (Nat × Nat)) (τ : Nat → Nat) : ∀ (fr : Frame) (i : Nat), getF (renF ρ τ fr) i = ren ρ τ (getF fr i)
 | [], i => rfl
 | (j, v) :: r, i => by
  simp only [renF, getF]
  split
  ·rfl
  ·exact getF_ren ρ τ r i

theorem getF_keep (fr : Frame) : ∀ (l : List Nat) (i : Nat), getF (keepF l fr) i = getF fr i ∨ getF (keepF l fr) i = .top
 | [], i => .inr rfl
 | j :: r, i => by
  have := getF_keep fr r i
  simp only [keepF, List.map_cons, getF]
  split
  ·rename_i h; subst h; exact .inl rfl
  ·exact this

section
variable {C : Ctx} {T : Nat → Nat → Prop} {m nt : Nat} {K0 : Kx} {fr : Frame} {H : Heap} {a : Act} {w : World}

theorem Now.keep (h : Now C T m K0 nt fr H a w) (l : List Nat) : Now C T m K0 nt (keepF l fr) H a w := by
 obtain ⟨μ, hI, hE, hf, hn, hd⟩ := h
 refine ⟨μ, hI, hE, fun i => ?_, hn, hd⟩
 rcases getF_keep fr l i with h | h <;> rw [h]
 ·exact hf i
 ·exact VRel.top _ _ _

def nrho (m : Nat) (new : List Nat) (H : Heap) (o g : Nat) : Option (Nat × Nat) :=
 match live H o g with
 | some _ => if o < m then some (o, g) else (idxOf new o m).map fun k => (k, 0)
 | none => none

def nat' (ρ : Nat → Nat → Option (Nat × Nat)) (H : Heap) (o : Nat) (g : Nat → Nat) : Option Obj :=
 match H[o]? with | some (some ob) => some (renObj ρ id (g ob.g) ob) | _ => none

def nheap (ρ : Nat → Nat → Option (Nat × Nat)) (m : Nat) (new : List Nat) (H : Heap) : Heap :=
 (List.range m).map (fun o => nat' ρ H o id) ++ new.map (fun o => nat' ρ H o (fun _ => 0))

def nμ (m : Nat) (new : List Nat) (μ : Nat → Pl) (o : Nat) : Pl := if o < m then μ o else μ (new.getD (o - m) 0)

theorem nat'_some {ρ : Nat → Nat → Option (Nat × Nat)} {H : Heap} {o : Nat} {g : Nat → Nat} {ob' : Obj} (h : nat' ρ H o g = some ob') : ∃ ob, H[o]? = some (some ob) ∧ ob' = renObj ρ id (g ob.g) ob := by
 unfold nat' at h
 split at h
 ·rename_i ob hob
  simp only [Option.some.injEq] at h
  exact ⟨ob, hob, h.symm⟩
 ·cases h

theorem nheap_len {ρ : Nat → Nat → Option (Nat × Nat)} {new : List Nat} : (nheap ρ m new H).length = m + new.length := by simp [nheap]

theorem nheap_get {ρ : Nat → Nat → Option (Nat × Nat)} {new : List Nat} {μ : Nat → Pl} {o : Nat} {ob' : Obj} (h : (nheap ρ m new H)[o]? = some (some ob')) :
  (o < m ∧ ∃ ob, H[o]? = some (some ob) ∧ ob' = renObj ρ id ob.g ob ∧ nμ m new μ o = μ o) ∨
  ∃ j k ob, o = m + j ∧ new[j]? = some k ∧ H[k]? = some (some ob) ∧ ob' = renObj ρ id 0 ob ∧ nμ m new μ o = μ k := by
 unfold nheap at h
 by_cases hlt : o < m
 ·left
  rw [List.getElem?_append_left (by simpa using hlt), List.getElem?_map, List.getElem?_range hlt] at h
  simp only [Option.map_some, Option.some.injEq] at h
  obtain ⟨ob, h1, h2⟩ := nat'_some h
  exact ⟨hlt, ob, h1, h2, by simp [nμ, hlt]⟩
 ·right
  rw [List.getElem?_append_right (by simp; omega), List.length_map, List.length_range, List.getElem?_map] at h
  cases hk : new[o - m]? with
  | none => rw [hk] at h; cases h
  | some k =>
   rw [hk] at h
   simp only [Option.map_some, Option.some.injEq] at h
   obtain ⟨ob, h1, h2⟩ := nat'_some h
   exact ⟨o - m, k, ob, by omega, hk, h1, h2, by simp [nμ, hlt, List.getD_eq_getElem?_getD, hk]⟩

theorem norm_own {ρ : Nat → Nat → Option (Nat × Nat)} {new : List Nat} {μ : Nat → Pl} {b : Nat} (h : Own ⟨nμ m new μ, nheap ρ m new H, w⟩ b) : Own ⟨μ, H, w⟩ b := by
 obtain ⟨o, ob', h1, h2, h3⟩ := h
 rcases nheap_get (μ := μ) h1 with ⟨_, ob, g1, rfl, g3⟩ | ⟨j, k, ob, _, _, g1, rfl, g3⟩
 ·simp only [g3] at h2 h3
  exact ⟨o, ob, g1, (Real.same (same_ren _ _ _ ob)).1 h2, h3⟩
 ·simp only [g3] at h2 h3
  exact ⟨k, ob, g1, (Real.same (same_ren _ _ _ ob)).1 h2, h3⟩

theorem norm_ren {new : List Nat} {μ : Nat → Pl} : Ren (nrho m new H) id ⟨μ, H, w⟩ ⟨nμ m new μ, nheap (nrho m new H) m new H, w⟩ T T (fun _ => True) where
 w := rfl
 h := by
  intro o g o' g' h
  unfold nrho at h
  split at h
  ·rename_i ob hob
   obtain ⟨ho, hg⟩ := live_iff.1 hob
   split at h
   ·rename_i hlt
    simp only [Option.some.injEq, Prod.mk.injEq] at h
    obtain ⟨rfl, rfl⟩ := h
    refine ⟨by simp only; rw [nheap_len]; omega, ob, hob, fun ob' h => ?_⟩
    rcases nheap_get (μ := μ) h with ⟨_, ob1, g1, rfl, g3⟩ | ⟨j, k, ob, g, _⟩
    ·rw [ho] at g1
     simp only [Option.some.injEq] at g1
     subst g1
     simp only [renObj, hg, Nat.le_refl, true_and]
     exact fun _ => ⟨g3, same_ren _ _ 0 ob⟩
    ·omega
   ·rename_i hlt
    cases hi : idxOf new o m with
    | none => rw [hi] at h; cases h
    | some k =>
     rw [hi] at h
     simp only [Option.map_some, Option.some.injEq, Prod.mk.injEq] at h
     obtain ⟨rfl, rfl⟩ := h
     obtain ⟨h1, h2⟩ := idxOf_some hi
     have h3 := (List.getElem?_eq_some_iff.1 h2).1
     refine ⟨by simp only; rw [nheap_len]; omega, ob, hob, fun ob' h => ?_⟩
     rcases nheap_get (μ := μ) h with ⟨q, _⟩ | ⟨j, k', ob1, q, q2, g1, rfl, g3⟩
     ·omega
     ·have : j = k - m := by omega
      subst this
      rw [h2] at q2
      simp only [Option.some.injEq] at q2
      subst q2
      rw [ho] at g1
      simp only [Option.some.injEq] at g1
      subst g1
      exact ⟨Nat.zero_le _, fun _ => ⟨g3, same_ren _ _ 0 ob⟩⟩
  ·cases h
 t := fun t _ b hb => ⟨hb.1, fun h => hb.2.1 (norm_own h), hb.2.2⟩

theorem Now.norm (h : Now C T m K0 nt fr H a w) : Now C T m K0 nt (normSt m fr H).1 (normSt m fr H).2 a w := by
 obtain ⟨μ, hI, hE, hf, hn, hd⟩ := h
 obtain ⟨hnd, hlive⟩ := reach_ok H reachFuel (List.range m ++ idsF fr) [] List.nodup_nil (by simp)
 have e : normSt m fr H = (renF (nrho m ((reach H reachFuel (List.range m ++ idsF fr) []).filter fun o => m ≤ o) H) id fr,
   nheap (nrho m ((reach H reachFuel (List.range m ++ idsF fr) []).filter fun o => m ≤ o) H) m ((reach H reachFuel (List.range m ++ idsF fr) []).filter fun o => m ≤ o) H) := rfl
 rw [e]
 generalize hnew : ((reach H reachFuel (List.range m ++ idsF fr) []).filter fun o => decide (m ≤ o)) = new
 have hnn : new.Nodup := by rw [← hnew]; exact hnd.filter _
 have hge : ∀ k ∈ new, m ≤ k := fun k hk => by rw [← hnew] at hk; simpa using (List.mem_filter.1 hk).2
 have hR := norm_ren (T := T) (m := m) (H := H) (w := w) (new := new) (μ := μ)
 have hlen : m ≤ H.length := hE.len
 refine ⟨nμ m new μ, ?_, ?_, fun i => ?_, hn, hd⟩
 ·constructor
  ·intro o ob' h
   rcases nheap_get (μ := μ) h with ⟨_, ob, g1, rfl, g3⟩ | ⟨j, k, ob, _, _, g1, rfl, g3⟩
   ·exact ObjOk.ren hR (fun _ _ => trivial) g3 (hI.obj o ob g1)
   ·exact ObjOk.ren hR (fun _ _ => trivial) g3 (hI.obj k ob g1)
  ·intro o o' ob ob' h h' hr hr' hb
   rcases nheap_get (μ := μ) h with ⟨l1, ob1, g1, rfl, g3⟩ | ⟨j, k, ob1, l1, q, g1, rfl, g3⟩ <;>
   rcases nheap_get (μ := μ) h' with ⟨l1', ob1', g1', rfl, g3'⟩ | ⟨j', k', ob1', l1', q', g1', rfl, g3'⟩ <;>
   simp only [g3, g3'] at hr hr' hb <;>
   have := hI.inj _ _ ob1 ob1' g1 g1' ((Real.same (same_ren _ _ _ _)).1 hr) ((Real.same (same_ren _ _ _ _)).1 hr') hb
   ·exact this
   ·have := hge k' (List.mem_of_getElem? q')
    omega
   ·have := hge k (List.mem_of_getElem? q)
    omega
   ·subst this
    have e1 := List.getElem?_eq_some_iff.1 q
    have e2 := List.getElem?_eq_some_iff.1 q'
    have : j = j' := (List.getElem_inj hnn).1 (e1.2.trans e2.2.symm)
    omega
  ·exact fun b h => hI.own b (norm_own h)
  ·exact hI.new
  ·exact hI.mono
  ·intro g p hg
   obtain ⟨h1, h2, h3⟩ := hI.glob g p hg
   have hnt : ∀ b, NT ⟨μ, H, w⟩ T gtag b → NT ⟨nμ m new μ, nheap (nrho m new H) m new H, w⟩ T gtag b := fun b hb => ⟨hb.1, fun h => hb.2.1 (norm_own h), hb.2.2⟩
   exact ⟨h1, hnt _ h2, RP_mono (fun b hb => ⟨hnt b hb, fun _ _ h => h⟩) p _ _ (fun _ _ h => h) h3⟩
 ·refine ⟨hE.lo, by simp only; rw [nheap_len]; omega, hE.size, hE.os, hE.tape, hE.output, fun o ho ob' h => ?_, fun b hb h => hE.own b hb (norm_own h), hE.cells, hE.exact⟩
  rcases nheap_get (μ := μ) h with ⟨_, ob, g1, rfl, g3⟩ | ⟨j, k, ob, l1, _⟩
  ·obtain ⟨ob0, h1, h2, h3⟩ := hE.obj o ho ob g1
   refine ⟨ob0, h1, h2, fun e => ?_⟩
   obtain ⟨h4, h5⟩ := h3 e
   exact ⟨g3.trans h4, h5.trans (same_ren _ _ _ ob)⟩
  ·omega
 ·rw [getF_ren]
  exact VRel.ren hR (fun _ _ => trivial) (hf i)

theorem Now.after (h : Now C T m K0 nt fr H a w) (f id : Nat) : (afterRegion C f m id fr H).ex = .normal ∧ Now C T m K0 nt (afterRegion C f m id fr H).fr (afterRegion C f m id fr H).H a w := by
 have hk : Now C T m K0 nt (match C.keep f id with | some l => keepF l fr | none => fr) H a w := by
  split
  ·exact h.keep _
  ·exact h
 unfold afterRegion
 simp only
 split
 ·exact ⟨rfl, hk.norm⟩
 ·exact ⟨rfl, hk⟩

end

end Go.AM

/- Drawing regions: every order tells the same. -/
namespace Go.AM

def FEq (fr fr' : Frame) : Prop := ∀ i, getF fr i = getF fr' i

theorem FEq.put {fr fr' : Frame} (h : FEq fr fr') (d : Option Nat) (v : AV) : FEq (putF fr d v) (putF fr' d v) := by
 intro i
 cases d with
 | none => exact h i
 | some d => simp only [putF, getF, h i]

theorem putF_comm (fr : Frame) {d e : Option Nat} (v u : AV) (h : ∀ i, d = some i → e ≠ some i) : FEq (putF (putF fr d v) e u) (putF (putF fr e u) d v) := by
 intro i
 cases d with
 | none => rfl
 | some d =>
  cases e with
  | none => rfl
  | some e =>
   have hne : e ≠ d := fun x => h d rfl (by rw [x])
   simp only [putF, getF]
   by_cases h1 : e = i
   ·have h2 : d ≠ i := fun x => hne (h1.trans x.symm)
    simp [h1, h2]
   ·simp [h1]

theorem getF_put {fr : Frame} {d : Option Nat} {v : AV} {i : Nat} (h : d ≠ some i) : getF (putF fr d v) i = getF fr i := by
 cases d with
 | none => rfl
 | some d =>
  have : d ≠ i := fun x => h (by rw [x])
  simp [putF, getF, this]

section
variable {C : Ctx} {cf : Cf} {nt : Nat} {ops : Array Oper}

theorem evalO_congr {fr fr' : Frame} {x : Operand} (h : ∀ t, x = .tmp t → getF fr t = getF fr' t) : evalO C fr x = evalO C fr' x := by
 cases x <;> simp only [evalO]
 exact h _ rfl

theorem evalT_congr {fr fr' : Frame} {x : Operand} {t : TypeId} (h : evalO C fr x = evalO C fr' x) : evalT C fr t x = evalT C fr' t x := by
 cases x <;> simp only [evalT] <;> exact h

theorem evalArgs_congr {fr fr' : Frame} : ∀ {l : List Operand} {ts : List TypeId}, (∀ x ∈ l, evalO C fr x = evalO C fr' x) → evalArgs C fr l ts = evalArgs C fr' l ts
 | [], _, _ => rfl
 | x :: r, ts, h => by
  simp only [evalArgs]
  rw [evalArgs_congr (fun y hy => h y (by simp [hy])), h x (by simp)]
  cases ts with
  | nil => rfl
  | cons t ts => simp only [evalT_congr (h x (by simp))]

theorem evalParts_congr {fr fr' : Frame} {t : TypeId} : ∀ {l : List (Nat × Operand)}, (∀ x ∈ l, evalO C fr x.2 = evalO C fr' x.2) → evalParts C fr t l = evalParts C fr' t l
 | [], _ => rfl
 | (i, x) :: r, h => by
  simp only [evalParts]
  rw [evalParts_congr (fun y hy => h y (by simp [hy])), evalT_congr (h (i, x) (by simp))]

theorem step_congr {fr fr' : Frame} {H : Heap} {o : Oper} (h : ∀ x ∈ o.op.operands, evalO C fr x = evalO C fr' x) : step C cf fr H o = step C cf fr' H o := by
 obtain ⟨dst, op, type, pos, after, guard⟩ := o
 have hT : ∀ t x, x ∈ op.operands → evalT C fr t x = evalT C fr' t x := fun t x hx => evalT_congr (h x hx)
 have parts : ∀ (t : TypeId) (ps : Array (Nat × Operand)), (∀ x ∈ (ps.toList.map (·.2)).toArray, evalO C fr x = evalO C fr' x) → evalParts C fr t ps.toList = evalParts C fr' t ps.toList := fun t ps hp =>
  evalParts_congr fun x hx => hp x.2 (List.mem_toArray.2 (List.mem_map.2 ⟨x, hx, rfl⟩))
 have omap : ∀ (r : Option Operand), (∀ x, r = some x → evalO C fr x = evalO C fr' x) → r.map (evalO C fr) = r.map (evalO C fr') := fun r hr => by
  cases r with
  | none => rfl
  | some x => simp [hr x rfl]
 cases op <;> simp only [Op.operands] at h hT <;> simp only [step]
 case build t ps => rw [parts 0 ps h]
 case buildSlice t n ps => rw [parts _ ps h]
 case makeFunc fn first captured =>
  have : captured.toList.map (evalO C fr) = captured.toList.map (evalO C fr') := List.map_congr_left fun x hx => h x (Array.mem_append.2 (.inr (Array.mem_toList_iff.1 hx)))
  cases fn <;> simp only [this]
 case makeMap t r => rw [omap r fun x hx => h x (by simp [hx])]
 case slice t x lo hi mx => rw [hT t x (by simp), omap lo fun y hy => h y (by simp [hy]), omap hi fun y hy => h y (by simp [hy])]
 case call c =>
  have hargs : ∀ ts, evalArgs C fr c.args.toList ts = evalArgs C fr' c.args.toList ts := fun ts => evalArgs_congr fun x hx => h x (Array.mem_append.2 (.inr (Array.mem_toList_iff.1 hx)))
  simp only [callV]
  cases hc : c.callee with
  | builtin b => simp only [hargs]
  | value x =>
   simp only [hargs]
   rw [h x (by simp [Call.operands, hc])]
  | invoke => rfl
 all_goals
  first
  | rfl
  | (simp only [h _ (by simp : _ ∈ _), hT _ _ (by simp : _ ∈ _)]; done)
  | (simp_all; done)

theorem runOps_cons (o : Oper) (r : List Oper) (fr : Frame) (H : Heap) :
  runOps C cf nt ops (o :: r) fr H = match out1 C cf nt ops o fr H with | some (v, H') => runOps C cf nt ops r (putF fr o.dst v) H' | none => none := by
 simp only [runOps, out1]
 split
 ·rcases wantedV ops fr o with _ | _ | _ <;> rfl
 ·rfl

theorem wanted_congr {fr fr' : Frame} {o : Oper} (h : ∀ t ∈ looks ops o, getF fr t = getF fr' t) : wantedV ops fr o = wantedV ops fr' o := by
 unfold wantedV
 cases hg : o.guard with
 | none => rfl
 | some x =>
  obtain ⟨j, want⟩ := x
  simp only
  cases hd : (ops[j]?).bind (·.dst) with
  | none => rfl
  | some d => simp only; rw [h d (by simp [looks, hg, hd])]

theorem out1_congr {fr fr' : Frame} {H : Heap} {o : Oper} (h : ∀ t ∈ looks ops o, getF fr t = getF fr' t) : out1 C cf nt ops o fr H = out1 C cf nt ops o fr' H := by
 unfold out1
 rw [wanted_congr h, step_congr fun x hx => evalO_congr fun t ht => h t ?_]
 subst ht
 exact List.mem_append_left _ (List.mem_filterMap.2 ⟨.tmp t, by simpa using hx, rfl⟩)

theorem free_step {fr : Frame} {H H' : Heap} {o : Oper} {v : AV} (hf : freeO C o = true) (h : step C cf fr H o = some (v, H')) : H' = H ∧ ∀ H2, step C cf fr H2 o = some (v, H2) := by
  obtain ⟨dst, op, type, pos, after, guard⟩ := o
  have keep : ∀ {m : Option AV}, (m.map fun v => (v, H)) = some (v, H') → H' = H ∧ ∀ H2 : Heap, (m.map fun v => (v, H2)) = some (v, H2) := by
    intro m hm
    cases m with
    | none => cases hm
    | some y =>
      simp only [Option.map_some, Option.some.injEq, Prod.mk.injEq] at hm
      obtain ⟨rfl, rfl⟩ := hm
      exact ⟨rfl, fun _ => rfl⟩
  cases op <;> simp only [freeO, Bool.false_eq_true] at hf <;> simp only [step] at h ⊢
  case move x =>
    simp only [Option.some.injEq, Prod.mk.injEq] at h
    obtain ⟨rfl, rfl⟩ := h
    exact ⟨rfl, fun _ => rfl⟩
  case assign x =>
    have : ∀ H, assignV C H type (evalT C fr type x) = (evalT C fr type x, H) := by
      intro H
      unfold assignV
      split
      · rename_i e he
        rw [he] at hf
        cases hf
      · rfl
    rw [this] at h
    simp only [Option.some.injEq, Prod.mk.injEq] at h
    obtain ⟨rfl, rfl⟩ := h
    exact ⟨rfl, fun H2 => by rw [this]⟩
  case pick c x y =>
    split at h
    · rename_i d hd
      simp only [Option.some.injEq, Prod.mk.injEq] at h
      obtain ⟨rfl, rfl⟩ := h
      exact ⟨rfl, fun _ => rfl⟩
    · cases h
  case build t ps => exact keep h
  case unOp op t x => exact keep h
  case field t x n => exact keep h
  case index t x ix => exact keep h
  case extract t i =>
    split at h
    · exact keep h
    · cases h
  case makeFunc fn first caps =>
    cases fn <;> simp only at h ⊢
    case func f =>
      split at h
      · rename_i hc
        simp only [Option.some.injEq, Prod.mk.injEq] at h
        obtain ⟨rfl, rfl⟩ := h
        exact ⟨rfl, fun _ => by rw [if_pos hc]⟩
      · cases h
    all_goals cases h
  case binOp op t x y ne =>
    have hb : ∀ H1 H2 a b, binV C H1 op t a b x y = binV C H2 op t a b x y := by
      intro H1 H2 a b
      have hn : ∀ z, nilFor C t z = false := by
        intro z
        unfold plainT at hf
        unfold nilFor
        split <;> simp_all
      have he : eqV C H1 t a b x y = eqV C H2 t a b x y := by
        unfold eqV
        split <;> first | rfl | simp [hn]
      unfold binV
      split
      · rfl
      · rfl
      · split
        · rw [he]
        · rw [he]
        · rfl
    obtain ⟨h1, h2⟩ := keep h
    exact ⟨h1, fun H2 => by rw [hb H2 H]; exact h2 H2⟩
  case convert s d x =>
    cases hd : und C d <;> rw [hd] at hf <;> simp only [Bool.false_eq_true] at hf
    case int k =>
      unfold convV at h ⊢
      split at h
      · cases h
      · rename_i hs
        simp only [hd, hs] at h ⊢
        split at h
        · rename_i k' k2 n e
          simp only [Option.some.injEq, Prod.mk.injEq] at h
          obtain ⟨rfl, rfl⟩ := h
          refine ⟨rfl, fun _ => ?_⟩
          simp_all
        all_goals simp_all
  case call c =>
    cases hc : c.callee with
    | builtin b =>
      rw [hc] at hf
      simp only [callV, hc] at h ⊢
      cases b <;> simp only [Bool.false_eq_true] at hf <;>
      (generalize evalArgs C fr c.args.toList c.argTypes.toList = args at h ⊢
       cases args with
       | nil => simp [builtinV] at h
       | cons y r => simp only [builtinV] at h ⊢; exact keep h)
    | value x => rw [hc] at hf; simp at hf
    | invoke r n => rw [hc] at hf; simp at hf


theorem quiet_step {fr : Frame} {H H' : Heap} {o : Oper} {v : AV} (hq : quietO C o = true) (h : step C cf fr H o = some (v, H')) : H' = H := by
 by_cases hf : freeO C o = true
 ·exact (free_step hf h).1
 obtain ⟨dst, op, type, pos, after, guard⟩ := o
 have keep : ∀ {m : Option AV}, (m.map fun v => (v, H)) = some (v, H') → H' = H := by
  intro m hm
  cases m with
  | none => cases hm
  | some y =>
   simp only [Option.map_some, Option.some.injEq, Prod.mk.injEq] at hm
   exact hm.2.symm
 cases op <;> simp only [quietO] at hq <;> try exact absurd hq hf
 all_goals simp only [step] at h
 case buildSlice t n ps =>
  cases hu : und C t <;> rw [hu] at hq <;> simp only [Bool.false_eq_true] at hq
  case slice e =>
   unfold buildSliceV at h
   simp only [hu, hq, if_true] at h
   split at h
   ·split at h
    ·cases h
    ·split at h
     ·exact keep h
     ·cases h
   ·cases h
 case load t x => exact keep h
 case nilCheck x =>
  split at h
  ·split at h
   ·simp only [Option.some.injEq, Prod.mk.injEq] at h; exact h.2.symm
   ·cases h
  ·simp only [Option.some.injEq, Prod.mk.injEq] at h; exact h.2.symm
  ·cases h
 case binOp op t x y ne => exact keep h
 case convert s d x =>
  have key : ∀ r, convV C H s d (evalT C fr s x) = r → ∀ v H', r = some (v, H') → H' = H := by
   intro r hr v H' hv
   unfold convV at hr
   repeat' (split at hr)
   all_goals (subst hr; first | (cases hv; done) | (simp only [Option.some.injEq, Prod.mk.injEq] at hv; exact hv.2.symm))
  exact key _ h _ _ rfl
 case slice t x lo hi mx =>
  split at h
  ·exact keep h
  ·cases h
 case fieldAddr => exact keep h
 case indexAddr => exact keep h
 case lookup => exact keep h
 case call c =>
  cases hc : c.callee with
  | builtin b =>
   rw [hc] at hq
   simp only [callV, hc] at h
   cases b <;> simp only [Bool.false_eq_true] at hq
   all_goals
    unfold builtinV at h
    split at h
    all_goals first | cases h | exact keep h | skip
    all_goals (first | (simp_all; done) | (simp_all; obtain ⟨_, _, _, rfl⟩ := h; rfl))
  | value x => rw [hc] at hq; simp at hq
  | invoke r n => rw [hc] at hq; simp at hq

theorem out1_quiet {fr : Frame} {H H' : Heap} {o : Oper} {v : AV} (hq : quietO C o = true) (h : out1 C cf nt ops o fr H = some (v, H')) : H' = H := by
 unfold out1 at h
 split at h
 ·split at h
  ·exact quiet_step hq h
  ·simp only [Option.some.injEq, Prod.mk.injEq] at h; exact h.2.symm
  ·cases h
 ·cases h

theorem out1_free {fr : Frame} {H H' : Heap} {o : Oper} {v : AV} (hf : freeO C o = true) (h : out1 C cf nt ops o fr H = some (v, H')) : H' = H ∧ ∀ H2, out1 C cf nt ops o fr H2 = some (v, H2) := by
 unfold out1 at h ⊢
 split at h
 ·rename_i hd
  simp only [hd, if_true]
  split at h
  ·rename_i hw
   obtain ⟨h1, h2⟩ := free_step hf h
   exact ⟨h1, h2⟩
  ·rename_i hw
   simp only [Option.some.injEq, Prod.mk.injEq] at h
   obtain ⟨rfl, rfl⟩ := h
   exact ⟨rfl, fun _ => rfl⟩
  ·cases h
 ·cases h

theorem apartOf_spec {x y : Oper} (h : apartOf ops x y = true) : (∀ d, x.dst = some d → d ∉ looks ops y ∧ y.dst ≠ some d) ∧ (∀ d, y.dst = some d → d ∉ looks ops x) := by
 unfold apartOf at h
 simp only [Bool.and_eq_true] at h
 obtain ⟨h1, h2⟩ := h
 refine ⟨fun d hd => ?_, fun d hd => ?_⟩
 ·rw [hd] at h1
  simp at h1
  exact h1
 ·rw [hd] at h2
  simp at h2
  exact h2

theorem look_op {fr fr' : Frame} {o : Oper} (h : ∀ t ∈ looks ops o, getF fr t = getF fr' t) : ∀ x ∈ o.op.operands, evalO C fr x = evalO C fr' x := by
 intro x hx
 refine evalO_congr fun t ht => h t ?_
 subst ht
 exact List.mem_append_left _ (List.mem_filterMap.2 ⟨.tmp t, by simpa using hx, rfl⟩)

theorem called_congr {fr fr' : Frame} {o : Oper} (h : ∀ x ∈ o.op.operands, evalO C fr x = evalO C fr' x) : calledV C fr o = calledV C fr' o := by
 obtain ⟨dst, op, type, pos, after, guard⟩ := o
 cases op <;> try rfl
 case call c =>
  simp only [calledV]
  cases hc : c.callee with
  | builtin b => rfl
  | value x =>
   simp only
   have hx : x ∈ (Call.operands c) := by simp [Call.operands, hc]
   have hargs : ∀ ts, evalArgs C fr c.args.toList ts = evalArgs C fr' c.args.toList ts := fun ts => evalArgs_congr fun y hy => h y (by
    simp only [Op.operands, Call.operands, hc]
    exact Array.mem_append.2 (.inr (Array.mem_toList_iff.1 hy)))
   simp only [hargs]
   rw [h x hx]
  | invoke r n => rfl

theorem pushes_congr {fr fr' : Frame} {o : Oper} (h : ∀ x ∈ o.op.operands, evalO C fr x = evalO C fr' x) : pushes C fr o = pushes C fr' o := by
 obtain ⟨dst, op, type, pos, after, guard⟩ := o
 cases op <;> try rfl
 case assign x =>
  simp only [pushes]
  rw [evalT_congr (h x (by simp [Op.operands]))]

theorem mark_congr {fr fr' : Frame} {H H' : Heap} {o : Oper} (h : ∀ t ∈ looks ops o, getF fr t = getF fr' t) : markOf C ops fr H H' o = markOf C ops fr' H H' o := by
 have hx := look_op (C := C) h
 have hv : opVals C fr o = opVals C fr' o := List.map_congr_left fun x hx' => hx x (by simpa using hx')
 unfold markOf touched mentioned
 rw [wanted_congr h, hv, called_congr hx, pushes_congr hx]

/-- what there is of operations -/
inductive Sort1 (C : Ctx) (cf : Cf) (nt : Nat) (ops : Array Oper) (o : Oper) (fr : Frame) (H : Heap) (v : AV) (H' : Heap) : Prop
 | free (hm : ∀ H2, markOf C ops fr H2 H2 o = .none) (he : H' = H) (ha : ∀ H2, out1 C cf nt ops o fr H2 = some (v, H2))
 | quiet (l : List Nat) (hm : ∀ H2, markOf C ops fr H2 H2 o = .look l) (he : H' = H) (ha : ∀ H2 : Heap, (∀ x ∈ l, H2[x]? = H[x]?) → out1 C cf nt ops o fr H2 = some (v, H2))
 | loud (t : List Nat) (hm : markOf C ops fr H H' o = .touch t H.length) (ho : Only t H H')
 | stay (t c : List Nat) (hm : markOf C ops fr H H' o = .stay t c (eqH H H')) (ho : Only t H H') (hl : H'.length = H.length)
  (up : ∀ ob, H.length ∉ c → out1 C cf nt ops o fr (H ++ [ob]) = some (v, H' ++ [ob]) ∧ markOf C ops fr (H ++ [ob]) (H' ++ [ob]) o = .stay t c (eqH H H'))
  (down : ∀ H0 ob, H = H0 ++ [ob] → H0.length ∉ c → ∃ H0', H' = H0' ++ [ob] ∧ H0'.length = H0.length ∧ out1 C cf nt ops o fr H0 = some (v, H0') ∧ markOf C ops fr H0 H0' o = .stay t c (eqH H H'))
 | push (ob : Option Obj) (hm : ∀ H2 : Heap, H2.length = H.length → markOf C ops fr H2 (H2 ++ [ob]) o = .push H.length) (he : H' = H ++ [ob]) (ha : ∀ H2 : Heap, H2.length = H.length → out1 C cf nt ops o fr H2 = some (v, H2 ++ [ob]))

/-- an operation that makes an object -/
theorem push_step {fr : Frame} {H H' : Heap} {o : Oper} {v : AV} (hp : pushes C fr o = true) (h : step C cf fr H o = some (v, H')) :
  ∃ ob, H' = H ++ [ob] ∧ ∀ H2 : Heap, H2.length = H.length → step C cf fr H2 o = some (v, H2 ++ [ob]) := by
 obtain ⟨dst, op, type, pos, after, guard⟩ := o
 cases op <;> simp only [pushes, Bool.false_eq_true] at hp <;> simp only [step] at h ⊢
 case assign x =>
  split at hp
  ·rename_i hv hu
   simp only [hv, assignV, hu, Option.some.injEq, Prod.mk.injEq] at h ⊢
   obtain ⟨rfl, rfl⟩ := h
   exact ⟨_, rfl, fun H2 h2 => ⟨by rw [h2], rfl⟩⟩
  ·cases hp
 case alloc t =>
  cases hb : boxOf (zeroAV C t) with
  | none => rw [hb] at h; cases h
  | some p =>
   rw [hb] at h
   simp only [newBox, Option.map_some, Option.some.injEq, Prod.mk.injEq] at h ⊢
   obtain ⟨rfl, rfl⟩ := h
   exact ⟨_, rfl, fun H2 h2 => ⟨by rw [h2], rfl⟩⟩
 case box t x =>
  cases hb : boxOf (evalT C fr t x) with
  | none => rw [hb] at h; cases h
  | some p =>
   rw [hb] at h
   simp only [Option.bind_some] at h ⊢
   split at h
   ·rename_i hc
    simp only [newBox, Option.some.injEq, Prod.mk.injEq] at h
    obtain ⟨rfl, rfl⟩ := h
    exact ⟨_, rfl, fun H2 h2 => by rw [if_pos hc]; simp [newBox, h2]⟩
   ·cases h
 case makeMap t r =>
  split at h
  ·rename_i hc
   simp only [newMap, Option.some.injEq, Prod.mk.injEq] at h
   obtain ⟨rfl, rfl⟩ := h
   exact ⟨_, rfl, fun H2 h2 => by rw [if_pos hc]; simp [newMap, h2]⟩
  ·cases h
 case makeSlice t l c =>
  unfold makeSliceV at h ⊢
  split at h
  ·rename_i e l' c' hu hl hc
   split at h
   ·rename_i hk
    cases hz : zeroRow C e l'.toNat with
    | none => rw [hz] at h; cases h
    | some p =>
     rw [hz] at h
     simp only [Option.map_some, Option.some.injEq, Prod.mk.injEq] at h
     obtain ⟨rfl, rfl⟩ := h
     refine ⟨_, rfl, fun H2 h2 => ?_⟩
     simp only [if_pos hk, Option.map_some, h2]
   ·cases h
  ·cases h

theorem sort1 (hcf : CfTouch C cf) {o : Oper} {fr : Frame} {H H' : Heap} {v : AV} (h : out1 C cf nt ops o fr H = some (v, H')) : Sort1 C cf nt ops o fr H v H' := by
 by_cases hw : wantedV ops fr o = some true
 ·have hstep : ∀ {H2 : Heap} {v2 : AV} {H3 : Heap}, step C cf fr H2 o = some (v2, H3) → out1 C cf nt ops o fr H2 = some (v2, H3) := by
   intro H2 v2 H3 hs
   unfold out1 at h ⊢
   split at h
   ·rename_i hd
    rw [if_pos hd, hw]
    exact hs
   ·cases h
  have h0 : step C cf fr H o = some (v, H') := by
   unfold out1 at h
   split at h
   ·rw [hw] at h
    exact h
   ·cases h
  by_cases hf : freeO C o = true
  ·obtain ⟨h1, h2⟩ := out1_free hf h
   exact .free (fun H2 => by simp [markOf, hw, hf]) h1 h2
  ·by_cases hq : quietO C o = true
   ·have e := out1_quiet hq h
    exact .quiet (idsL (opVals C fr o)) (fun H2 => by simp [markOf, hw, hf, hq]) e fun H2 hx => hstep (quiet_at hq (by simpa using hf) h0 hx)
   ·by_cases hp : pushes C fr o = true
    ·obtain ⟨ob, h1, h2⟩ := push_step hp h0
     exact .push ob (fun H2 h3 => by simp [markOf, hw, hf, hq, hp, h3]) h1 fun H2 h3 => hstep (h2 H2 h3)
    ·by_cases ha : isAssign o = true
     ·have hA : ∃ x, o.op = .assign x := by
       unfold isAssign at ha
       split at ha
       ·rename_i x hx; exact ⟨x, hx⟩
       ·cases ha
      obtain ⟨x, hx⟩ := hA
      have key : ∀ H2 : Heap, step C cf fr H2 o = some (evalT C fr o.type x, H2) := by
       intro H2
       simp only [step, hx]
       unfold assignV
       split
       ·rename_i h1 h2
        simp [pushes, hx, h1, h2] at hp
       ·rfl
      rw [key H] at h0
      simp only [Option.some.injEq, Prod.mk.injEq] at h0
      obtain ⟨rfl, rfl⟩ := h0
      exact .free (fun H2 => by simp [markOf, hw, hf, hq, hp, ha]) rfl fun H2 => hstep (key H2)
     ·by_cases hs : ((calledV C fr o).isSome && H'.length == H.length) = true
      ·simp only [Bool.and_eq_true, beq_iff_eq] at hs
       obtain ⟨hs, hlen⟩ := hs
       obtain ⟨⟨f, args⟩, hcv⟩ := Option.isSome_iff_exists.1 hs
       -- a call
       have hcall : ∀ H2 : Heap, step C cf fr H2 o = if bodied C f then cf f args H2 else none := by
        intro H2
        unfold calledV at hcv
        split at hcv
        ·rename_i c hop
         split at hcv
         ·rename_i x hcal
          split at hcv
          ·rename_i f' caps he
           simp only [Option.some.injEq, Prod.mk.injEq] at hcv
           obtain ⟨rfl, rfl⟩ := hcv
           simp only [step, hop, callV, hcal, he]
          ·cases hcv
         ·cases hcv
        ·cases hcv
       have hbd : bodied C f = true := by
        rw [hcall H] at h0
        split at h0
        ·assumption
        ·cases h0
       have hcall' : ∀ H2 : Heap, step C cf fr H2 o = cf f args H2 := fun H2 => by rw [hcall H2, if_pos hbd]
       have h1 : cf f args H = some (v, H') := by rw [← hcall' H]; exact h0
       obtain ⟨hup, hdown⟩ := hcf.2 f args H v H' h1 hlen
       have ht : ∀ H2 : Heap, touched C fr H2 o = touchCall C f args H2 := fun H2 => by simp only [touched, hcv]
       have hme : ∀ H2 : Heap, mentioned C fr H2 o = mentionCall C f args H2 := fun H2 => by simp only [mentioned, hcv]
       have hmk : ∀ H2 H3 : Heap, H3.length = H2.length → markOf C ops fr H2 H3 o = .stay (touchCall C f args H2) (mentionCall C f args H2) (eqH H2 H3) := fun H2 H3 h3 => by
        simp [markOf, hw, hf, hq, hp, ha, hcv, h3, ht, hme]
       refine .stay _ _ (hmk H H' hlen) ?_ hlen ?_ ?_
       ·rw [← ht]; exact step_only hcf.1 h0
       ·intro ob hn
        obtain ⟨_, e1, e2, _⟩ := mention_but (C := C) (But.push H ob) hn
        refine ⟨hstep (by rw [hcall']; exact hup ob hn), ?_⟩
        rw [hmk _ _ (by simp [hlen]), e1, e2, eqH_snoc]
       ·intro H0 ob he hn
        subst he
        obtain ⟨H0', h2, h3, h4⟩ := hdown H0 ob rfl hn
        obtain ⟨_, e1, e2, _⟩ := mention_but (C := C) (But.pop H0 ob) hn
        refine ⟨H0', h2, h3, hstep (by rw [hcall']; exact h4), ?_⟩
        rw [hmk _ _ h3, e1, e2, h2, eqH_snoc]
      ·exact .loud (touched C fr H o) (by simp [markOf, hw, hf, hq, hp, ha]; simpa using hs) (step_only hcf.1 h0)
 ·have hm : ∀ H2, markOf C ops fr H2 H2 o = .none := fun H2 => by
   unfold markOf
   split
   ·rename_i hw'; exact absurd hw' hw
   ·rfl
  unfold out1 at h
  split at h
  ·rename_i hd
   split at h
   ·rename_i hw'; exact absurd hw' hw
   ·rename_i hw'
    simp only [Option.some.injEq, Prod.mk.injEq] at h
    obtain ⟨rfl, rfl⟩ := h
    exact .free hm rfl fun H2 => by simp [out1, hd, hw']
   ·cases h
  ·cases h

theorem disjoint_iff' {l t : List Nat} {n : Nat} (h : lookOk l t n = true) : ∀ x ∈ l, x ∉ t ∧ x < n := by
 unfold lookOk at h
 simp only [Bool.and_eq_true, List.all_eq_true, decide_eq_true_eq] at h
 exact fun x hx => ⟨disjoint_iff.1 h.1 x hx, h.2 x hx⟩

/-- objects beyond what is turned are the same -/
theorem Only.stay {l t : List Nat} {H H' : Heap} (ho : Only t H H') (hl : H'.length = H.length) (hd : disjoint l t = true) : ∀ z ∈ l, H'[z]? = H[z]? := by
 intro z hz
 by_cases h : z < H.length
 ·exact ho.2 z h (disjoint_iff.1 hd z hz)
 ·rw [List.getElem?_eq_none (by omega), List.getElem?_eq_none (by omega)]

theorem push_at {l : List Nat} {H : Heap} {ob : Option Obj} (hd : (!l.contains H.length) = true) : ∀ z ∈ l, (H ++ [ob])[z]? = H[z]? := by
 intro z hz
 refine But.push H ob z fun e => ?_
 subst e
 simp [hz] at hd

theorem swapD (hcf : CfTouch C cf) {x y : Oper} {fr : Frame} {H H1 H2 : Heap} {v u : AV} (hxy : apartOf ops x y = true) (hb : bear (markOf C ops fr H H1 x) (markOf C ops (putF fr x.dst v) H1 H2 y) = true)
  (hx : out1 C cf nt ops x fr H = some (v, H1)) (hy : out1 C cf nt ops y (putF fr x.dst v) H1 = some (u, H2)) :
  ∃ H1', out1 C cf nt ops y fr H = some (u, H1') ∧ out1 C cf nt ops x (putF fr y.dst u) H1' = some (v, H2) ∧
   markOf C ops fr H H1' y = markOf C ops (putF fr x.dst v) H1 H2 y ∧ markOf C ops (putF fr y.dst u) H1' H2 x = markOf C ops fr H H1 x := by
 obtain ⟨h1, h2⟩ := apartOf_spec hxy
 have hyl : ∀ t ∈ looks ops y, getF (putF fr x.dst v) t = getF fr t := fun t ht => getF_put fun e => (h1 t e).1 ht
 have hxl : ∀ t ∈ looks ops x, getF (putF fr y.dst u) t = getF fr t := fun t ht => getF_put fun e => h2 t e ht
 rw [out1_congr hyl] at hy
 have hy' : ∀ H H', markOf C ops (putF fr x.dst v) H H' y = markOf C ops fr H H' y := fun H H' => mark_congr hyl
 have hx' : ∀ H, out1 C cf nt ops x (putF fr y.dst u) H = out1 C cf nt ops x fr H := fun H => out1_congr hxl
 have hx'' : ∀ H H', markOf C ops (putF fr y.dst u) H H' x = markOf C ops fr H H' x := fun H H' => mark_congr hxl
 simp only [hy'] at hb
 simp only [hx', hx'', hy']
 rcases sort1 hcf hx with ⟨hm, rfl, ha⟩ | ⟨l, hm, rfl, ha⟩ | ⟨t, hm, ho⟩ | ⟨t, c, hm, ho, hl, up, down⟩ | ⟨ob, hm, rfl, ha⟩
 ·exact ⟨H2, hy, ha H2, rfl, by rw [hm, hm]⟩
 ·rcases sort1 hcf hy with ⟨hm2, rfl, ha2⟩ | ⟨l2, hm2, rfl, ha2⟩ | ⟨t2, hm2, ho2⟩ | ⟨t2, c2, hm2, ho2, hl2, up2, down2⟩ | ⟨ob2, hm2, rfl, ha2⟩
  ·exact ⟨_, ha2 _, hx, rfl, rfl⟩
  ·exact ⟨_, hy, hx, rfl, rfl⟩
  ·rw [hm, hm2] at hb
   have hl := disjoint_iff' (by simpa [bear] using hb)
   exact ⟨H2, hy, ha H2 fun z hz => ho2.2 z (hl z hz).2 (hl z hz).1, rfl, by rw [hm, hm]⟩
  ·rw [hm, hm2] at hb
   rcases Bool.or_eq_true_iff.1 (show (_ || _) = true from hb) with hb | hb
   ·exact ⟨H2, hy, ha H2 (ho2.stay hl2 hb), rfl, by rw [hm, hm]⟩
   ·obtain rfl := eqH_eq hb
    exact ⟨_, hy, hx, rfl, rfl⟩
  ·rw [hm, hm2 _ rfl] at hb
   exact ⟨_, hy, ha _ (push_at hb), rfl, by rw [hm, hm]⟩
 ·rcases sort1 hcf hy with ⟨hm2, rfl, ha2⟩ | ⟨l2, hm2, rfl, ha2⟩ | ⟨t2, hm2, ho2⟩ | ⟨t2, c2, hm2, ho2, hl2, up2, down2⟩ | ⟨ob2, hm2, rfl, ha2⟩
  ·exact ⟨H, ha2 H, hx, by rw [hm2, hm2], rfl⟩
  ·rw [hm, hm2] at hb
   have hl := disjoint_iff' (by simpa [bear] using hb)
   exact ⟨H, ha2 H fun z hz => (ho.2 z (hl z hz).2 (hl z hz).1).symm, hx, by rw [hm2, hm2], rfl⟩
  ·rw [hm, hm2] at hb
   simp [bear] at hb
  ·rw [hm, hm2] at hb
   simp [bear] at hb
  ·rw [hm, hm2 _ rfl] at hb
   simp [bear] at hb
 ·rcases sort1 hcf hy with ⟨hm2, rfl, ha2⟩ | ⟨l2, hm2, rfl, ha2⟩ | ⟨t2, hm2, ho2⟩ | ⟨t2, c2, hm2, ho2, hl2, up2, down2⟩ | ⟨ob2, hm2, rfl, ha2⟩
  ·exact ⟨H, ha2 H, hx, by rw [hm2, hm2], rfl⟩
  ·rw [hm, hm2] at hb
   rcases Bool.or_eq_true_iff.1 (show (_ || _) = true from hb) with hb | hb
   ·exact ⟨H, ha2 H fun z hz => (ho.stay hl hb z hz).symm, hx, by rw [hm2, hm2], rfl⟩
   ·obtain rfl := eqH_eq hb
    exact ⟨_, hy, hx, rfl, rfl⟩
  ·rw [hm, hm2] at hb
   simp [bear] at hb
  ·rw [hm, hm2] at hb
   have hb := Bool.and_eq_true_iff.1 (show (_ && _) = true from hb)
   obtain rfl := eqH_eq hb.1
   obtain rfl := eqH_eq hb.2
   exact ⟨_, hy, hx, rfl, rfl⟩
  ·rw [hm, hm2 _ rfl] at hb
   have hn : H.length ∉ c := by
    rw [← hl]
    simpa [bear] using hb
   obtain ⟨h3, h4⟩ := up ob2 hn
   exact ⟨H ++ [ob2], ha2 H hl.symm, h3, by rw [hm2 H hl.symm, hm2 _ rfl], by rw [h4, hm]⟩
 ·rcases sort1 hcf hy with ⟨hm2, rfl, ha2⟩ | ⟨l2, hm2, rfl, ha2⟩ | ⟨t2, hm2, ho2⟩ | ⟨t2, c2, hm2, ho2, hl2, up2, down2⟩ | ⟨ob2, hm2, rfl, ha2⟩
  ·exact ⟨H, ha2 H, hx, by rw [hm2, hm2], rfl⟩
  ·rw [hm _ rfl, hm2] at hb
   exact ⟨H, ha2 H fun z hz => (push_at hb z hz).symm, hx, by rw [hm2, hm2], rfl⟩
  ·rw [hm _ rfl, hm2] at hb
   simp [bear] at hb
  ·rw [hm _ rfl, hm2] at hb
   have hn : H.length ∉ c2 := by simpa [bear] using hb
   obtain ⟨H0', h3, h4, h5, h6⟩ := down2 H ob rfl hn
   subst h3
   exact ⟨H0', h5, ha H0' h4, by rw [h6, hm2], by rw [hm _ h4, hm _ rfl]⟩
  ·rw [hm _ rfl, hm2 _ rfl] at hb
   simp [bear] at hb

theorem runD_feq : ∀ {l : List Oper} {fr fr2 : Frame} {H : Heap} {fr' : Frame} {H' : Heap} {ms : List Mark}, FEq fr fr2 → runD C cf nt ops l fr H = some (fr', H', ms) → ∃ fr2', runD C cf nt ops l fr2 H = some (fr2', H', ms) ∧ FEq fr2' fr'
 | [], fr, fr2, H, fr', H', ms, he, h => by
  simp only [runD, Option.some.injEq, Prod.mk.injEq] at h
  obtain ⟨rfl, rfl, rfl⟩ := h
  exact ⟨fr2, rfl, fun i => (he i).symm⟩
 | o :: r, fr, fr2, H, fr', H', ms, he, h => by
  simp only [runD] at h ⊢
  have hmk : ∀ H H', markOf C ops fr2 H H' o = markOf C ops fr H H' o := fun H H' => (mark_congr (fr := fr) fun t _ => he t).symm
  rw [← out1_congr (fr := fr) fun t _ => he t]
  simp only [hmk]
  split at h
  ·rename_i v H1 hv
   split at h
   ·rename_i fr1 H2 ms' hr
    simp only [Option.some.injEq, Prod.mk.injEq] at h
    obtain ⟨rfl, rfl, rfl⟩ := h
    obtain ⟨fr2', h1, h2⟩ := runD_feq (he.put o.dst v) hr
    exact ⟨fr2', by simp only [h1], h2⟩
   ·cases h
  ·cases h

def opAt (ops : Array Oper) (i : Nat) : Oper := ops.getD i default

theorem front (hcf : CfTouch C cf) {mk : Nat → Mark} {i : Nat} {B : List Nat} : ∀ {A : List Nat} {fr : Frame} {H : Heap} {fr' : Frame} {H' : Heap},
  runD C cf nt ops ((A ++ i :: B).map (opAt ops)) fr H = some (fr', H', (A ++ i :: B).map mk) → (∀ j ∈ A, apartOf ops (opAt ops j) (opAt ops i) = true ∧ bear (mk j) (mk i) = true) →
  ∃ v H1, out1 C cf nt ops (opAt ops i) fr H = some (v, H1) ∧ markOf C ops fr H H1 (opAt ops i) = mk i ∧
   ∃ fr'', runD C cf nt ops ((A ++ B).map (opAt ops)) (putF fr (opAt ops i).dst v) H1 = some (fr'', H', (A ++ B).map mk) ∧ FEq fr'' fr'
 | [], fr, H, fr', H', h, _ => by
  simp only [List.nil_append, List.map_cons, runD] at h
  split at h
  ·rename_i v H1 hv
   split at h
   ·rename_i fr1 H2 ms hr
    simp only [Option.some.injEq, Prod.mk.injEq, List.cons.injEq] at h
    obtain ⟨rfl, rfl, h1, rfl⟩ := h
    exact ⟨v, H1, hv, h1, fr1, hr, fun _ => rfl⟩
   ·cases h
  ·cases h
 | a :: A, fr, H, fr', H', h, hA => by
  simp only [List.cons_append, List.map_cons, runD] at h
  split at h
  ·rename_i u Ha hu
   split at h
   ·rename_i fr1 H2 ms hr
    simp only [Option.some.injEq, Prod.mk.injEq, List.cons.injEq] at h
    obtain ⟨rfl, rfl, hma, rfl⟩ := h
    obtain ⟨v, H1, h1, hmi, fr'', h2, h3⟩ := front hcf hr fun j hj => hA j (by simp [hj])
    obtain ⟨hap, hbr⟩ := hA a (by simp)
    obtain ⟨H1', h4, h5, h6, h7⟩ := swapD hcf hap (by rw [hma, hmi]; exact hbr) hu h1
    have hne : ∀ k, (opAt ops a).dst = some k → (opAt ops i).dst ≠ some k := fun k hk => ((apartOf_spec hap).1 k hk).2
    obtain ⟨fr3, h8, h9⟩ := runD_feq (putF_comm fr u v hne) h2
    refine ⟨v, H1', h4, h6.trans hmi, fr3, ?_, fun k => (h9 k).trans (h3 k)⟩
    simp only [List.cons_append, List.map_cons, runD]
    rw [h5]
    simp only [h8, h7, hma]
   ·cases h
  ·cases h

/-- the run in the text's order, with its marks -/
theorem runD_of : ∀ {l : List Oper} {fr : Frame} {H : Heap} {fr' : Frame} {H' : Heap}, runOps C cf nt ops l fr H = some (fr', H') → ∃ ms, runD C cf nt ops l fr H = some (fr', H', ms)
 | [], fr, H, fr', H', h => by
  simp only [runOps, Option.some.injEq, Prod.mk.injEq] at h
  obtain ⟨rfl, rfl⟩ := h
  exact ⟨[], rfl⟩
 | o :: r, fr, H, fr', H', h => by
  rw [runOps_cons] at h
  simp only [runD]
  split at h
  ·rename_i v H1 hv
   obtain ⟨ms, hm⟩ := runD_of h
   refine ⟨markOf C ops fr H H1 o :: ms, ?_⟩
   rw [hv]
   simp only [hm]
  ·cases h

theorem runD_marks : ∀ {l : List Oper} {fr : Frame} {H : Heap} {fr' : Frame} {H' : Heap} {ms : List Mark}, runD C cf nt ops l fr H = some (fr', H', ms) →
  ms.length = l.length ∧ ∀ (i : Nat) (o : Oper) (m : Mark), l[i]? = some o → ms[i]? = some m → ∃ fr H H', m = markOf C ops fr H H' o
 | [], fr, H, fr', H', ms, h => by
  simp only [runD, Option.some.injEq, Prod.mk.injEq] at h
  obtain ⟨_, _, rfl⟩ := h
  simp
 | o :: r, fr, H, fr', H', ms, h => by
  simp only [runD] at h
  split at h
  ·split at h
   ·rename_i hr
    simp only [Option.some.injEq, Prod.mk.injEq] at h
    obtain ⟨_, _, rfl⟩ := h
    obtain ⟨h1, h2⟩ := runD_marks hr
    refine ⟨by simp [h1], fun i p m hp hm => ?_⟩
    cases i with
    | zero =>
     simp only [List.getElem?_cons_zero, Option.some.injEq] at hp hm
     subst hp; subst hm
     exact ⟨fr, H, _, rfl⟩
    | succ i => exact h2 i p m (by simpa using hp) (by simpa using hm)
   ·cases h
  ·cases h

theorem mark_free {fr : Frame} {H H' : Heap} {o : Oper} (h : freeO C o = true) : markOf C ops fr H H' o = .none := by
 unfold markOf; split <;> simp [h]

theorem mark_quiet {fr : Frame} {H H' : Heap} {o : Oper} (h : quietO C o = true) : markOf C ops fr H H' o = .none ∨ ∃ l, markOf C ops fr H H' o = .look l := by
 unfold markOf
 split
 ·split
  ·exact .inl rfl
  ·exact .inr ⟨idsL (opVals C fr o), rfl⟩
 ·exact .inl rfl

theorem freeOf_bear {x y : Oper} (h : freeOf C ops x y = true) (fr fr' : Frame) (H H2 H' H3 : Heap) : apartOf ops x y = true ∧ bear (markOf C ops fr H H2 x) (markOf C ops fr' H' H3 y) = true := by
 unfold freeOf at h
 simp only [Bool.and_eq_true, Bool.or_eq_true] at h
 refine ⟨h.1, ?_⟩
 rcases h.2 with (h | h) | ⟨h1, h2⟩
 ·rw [mark_free h]; cases markOf C ops fr' H' H3 y <;> rfl
 ·rw [mark_free h]; cases markOf C ops fr H H2 x <;> rfl
 ·rcases mark_quiet (ops := ops) (fr := fr) (H := H) (H' := H2) h1 with e | ⟨l, e⟩ <;> rcases mark_quiet (ops := ops) (fr := fr') (H := H') (H' := H3) h2 with e2 | ⟨l2, e2⟩ <;> rw [e, e2] <;> rfl

end

end Go.AM

/- Drawing regions: whatever is drawn. -/
namespace Go.AM

section before

theorem foldl_pushes {α β : Type} (m : Array β → α → β) : ∀ (l : List α) (acc : Array β),
  (l.foldl (fun acc o => acc.push (m acc o)) acc).size = acc.size + l.length ∧
  (∀ k, k < acc.size → (l.foldl (fun acc o => acc.push (m acc o)) acc)[k]? = acc[k]?) ∧
  ∀ k o, l[k]? = some o → ∃ acc' : Array β, acc'.size = acc.size + k ∧ (∀ j, j < acc'.size → (l.foldl (fun acc o => acc.push (m acc o)) acc)[j]? = acc'[j]?) ∧
   (l.foldl (fun acc o => acc.push (m acc o)) acc)[acc.size + k]? = some (m acc' o)
 | [], acc => ⟨by simp, fun _ _ => rfl, fun k o h => by simp at h⟩
 | a :: r, acc => by
  obtain ⟨h1, h2, h3⟩ := foldl_pushes m r (acc.push (m acc a))
  simp only [List.foldl_cons]
  refine ⟨by rw [h1]; simp; omega, fun k hk => ?_, fun k o h => ?_⟩
  ·rw [h2 k (by simp; omega), Array.getElem?_push_lt hk, Array.getElem?_eq_getElem hk]
  ·cases k with
   | zero =>
    simp only [List.getElem?_cons_zero, Option.some.injEq] at h
    subst h
    refine ⟨acc, rfl, fun j hj => ?_, ?_⟩
    ·rw [h2 j (by simp; omega), Array.getElem?_push_lt hj, Array.getElem?_eq_getElem hj]
    ·rw [h2 _ (by simp)]
     simp
   | succ k =>
    simp only [List.getElem?_cons_succ] at h
    obtain ⟨acc', h4, h5, h6⟩ := h3 k o h
    simp only [Array.size_push] at h4 h6
    exact ⟨acc', by omega, h5, by rw [show acc.size + (k + 1) = acc.size + 1 + k by omega]; exact h6⟩

theorem mask_bit {acc : Array Nat} {j : Nat} : ∀ (l : List Edge) (s0 : Nat), ((l.foldl (fun s e => if Region.binds .any e then s ||| 2 ^ e.on ||| acc.getD e.on 0 else s) s0).testBit j) = true →
  s0.testBit j = true ∨ ∃ e ∈ l, Region.binds .any e = true ∧ (j = e.on ∨ (acc.getD e.on 0).testBit j = true)
 | [], s0, h => .inl h
 | e :: r, s0, h => by
  simp only [List.foldl_cons] at h
  rcases mask_bit r _ h with h | ⟨e', h1, h2⟩
  ·split at h
   ·rename_i hb
    rw [Nat.testBit_or, Nat.testBit_or, Nat.testBit_two_pow] at h
    simp only [Bool.or_eq_true, decide_eq_true_eq] at h
    rcases h with (h | h) | h
    ·exact .inl h
    ·exact .inr ⟨e, by simp, hb, .inl h.symm⟩
    ·exact .inr ⟨e, by simp, hb, .inr h⟩
   ·exact .inl h
  ·exact .inr ⟨e', by simp [h1], h2⟩

theorem before_bit {ops : Array Oper} {i j : Nat} {o : Oper} (hi : ops[i]? = some o) (he : edgesOk i o = true) (h : ((Region.before ops).getD i 0).testBit j = true) :
  ∃ e ∈ o.after.toList, Region.binds .any e = true ∧ (j = e.on ∨ ((Region.before ops).getD e.on 0).testBit j = true) := by
 have hfold := foldl_pushes (fun (acc : Array Nat) (o : Oper) => o.after.foldl (fun s e => if Region.binds .any e then s ||| 2 ^ e.on ||| acc.getD e.on 0 else s) 0) ops.toList #[]
 have hb : Region.before ops = ops.toList.foldl (fun acc o => acc.push (o.after.foldl (fun s e => if Region.binds .any e then s ||| 2 ^ e.on ||| acc.getD e.on 0 else s) 0)) #[] := by
  unfold Region.before
  rw [Array.foldl_toList]
 rw [← hb] at hfold
 obtain ⟨_, _, h3⟩ := hfold
 obtain ⟨acc', h4, h5, h6⟩ := h3 i o (by rw [Array.getElem?_toList]; exact hi)
 simp only [List.size_toArray, List.length_nil, Nat.zero_add] at h4 h6
 rw [Array.getD_eq_getD_getElem?, h6, Option.getD_some, ← Array.foldl_toList] at h
 rcases mask_bit _ _ h with h | ⟨e, h7, h8, h9⟩
 ·simp at h
 ·refine ⟨e, h7, h8, ?_⟩
  rcases h9 with h9 | h9
  ·exact .inl h9
  ·right
   have hlt : e.on < i := by
    unfold edgesOk at he
    have := List.all_eq_true.1 he e h7
    simpa [h8] using this
   rw [Array.getD_eq_getD_getElem?, h5 e.on (by omega), ← Array.getD_eq_getD_getElem?]
   exact h9

theorem edgesAll_spec : ∀ {l : List Oper} {k : Nat}, edgesAll k l = true → ∀ (i : Nat) (o : Oper), l[i]? = some o → edgesOk (k + i) o = true
 | [], k, _, i, o, h => by simp at h
 | a :: r, k, he, i, o, h => by
  simp only [edgesAll, Bool.and_eq_true] at he
  cases i with
  | zero =>
   simp only [List.getElem?_cons_zero, Option.some.injEq] at h
   subst h
   exact he.1
  | succ i =>
   have := edgesAll_spec he.2 i o (by simpa using h)
   rwa [show k + (i + 1) = k + 1 + i by omega]

end before

section
variable {C : Ctx} {cf : Cf} {T : Nat → Nat → Prop} {m nt : Nat} {K0 : Kx} {ops : Array Oper}

theorem Now.feq {fr fr' : Frame} {H : Heap} {a : Act} {w : World} (h : Now C T m K0 nt fr H a w) (he : FEq fr fr') : Now C T m K0 nt fr' H a w := by
 obtain ⟨μ, hI, hE, hf, hn, hd⟩ := h
 exact ⟨μ, hI, hE, fun i => by rw [← he i]; exact hf i, hn, hd⟩

def rest (ops : Array Oper) (listed : Array Bool) : List Nat := (List.range ops.size).filter fun i => !listed.getD i true

theorem at_some {i : Nat} (h : i < ops.size) : ops[i]? = some (opAt ops i) := by
 simp [opAt, Array.getD_eq_getD_getElem?, h]

theorem mem_rest {listed : Array Bool} {i : Nat} : i ∈ rest ops listed ↔ i < ops.size ∧ listed.getD i true = false := by
 simp [rest]

theorem rest_sorted (listed : Array Bool) : (rest ops listed).Pairwise (· < ·) := List.Pairwise.filter _ List.pairwise_lt_range

theorem mem_ready {listed : Array Bool} {i : Nat} : i ∈ Region.ready .any ops listed ↔ i ∈ rest ops listed ∧ ((ops[i]?).map (·.after.all fun e => !Region.binds .any e || listed.getD e.on false)).getD false = true := by
 unfold Region.ready
 rw [List.mem_filter, mem_rest]
 simp only [List.mem_range, Bool.and_eq_true, Bool.not_eq_true']
 exact and_assoc.symm

theorem getD_other {listed : Array Bool} {i : Nat} (h : i < listed.size) : listed.getD i true = listed.getD i false := by
 simp [Array.getD_eq_getD_getElem?, h]

/-- what waits for nothing listed yet is ready -/
theorem ready_least {listed : Array Bool} (hs : listed.size = ops.size) (hed : edgesAll 0 ops.toList = true) {i : Nat} {r : List Nat} (h : rest ops listed = i :: r) : i ∈ Region.ready .any ops listed := by
 have hi : i ∈ rest ops listed := by rw [h]; simp
 obtain ⟨h1, h2⟩ := mem_rest.1 hi
 refine mem_ready.2 ⟨hi, ?_⟩
 rw [at_some h1]
 simp only [Option.map_some, Option.getD_some, Array.all_eq_true_iff_forall_mem, Bool.or_eq_true, Bool.not_eq_true']
 intro e he
 by_cases hb : Region.binds .any e = true
 ·right
  have hok := edgesAll_spec hed i (opAt ops i) (by rw [Array.getElem?_toList]; exact at_some h1)
  rw [Nat.zero_add] at hok
  have hlt : e.on < i := by
   have := List.all_eq_true.1 hok e (Array.mem_toList_iff.2 he)
   simpa [hb] using this
  rw [← getD_other (by omega)]
  by_cases hl : listed.getD e.on true = true
  ·exact hl
  ·exfalso
   have hm : e.on ∈ rest ops listed := mem_rest.2 ⟨by omega, by simpa using hl⟩
   have hso := rest_sorted (ops := ops) listed
   rw [h] at hm hso
   rcases List.mem_cons.1 hm with h4 | h4
   ·omega
   ·have := (List.pairwise_cons.1 hso).1 _ h4
    omega
 ·left
  simpa using hb

def Closed (ops : Array Oper) (listed : Array Bool) : Prop := ∀ i, i < ops.size → listed.getD i false = true → ∀ j, ((Region.before ops).getD i 0).testBit j = true → listed.getD j false = true

theorem set_getD {listed : Array Bool} {i j : Nat} {d : Bool} (hi : i < listed.size) : (listed.setIfInBounds i true).getD j d = if j = i then true else listed.getD j d := by
 simp only [Array.getD_eq_getD_getElem?]
 split
 ·rename_i h
  subst h
  simp [hi]
 ·rename_i h
  rw [Array.getElem?_setIfInBounds_ne (Ne.symm h)]

theorem any_ok (hcf : CfOk C cf) (hct : CfTouch C cf) (hed : edgesAll 0 ops.toList = true) {mk : Nat → Mark} (b : Nat)
  (hpair : ∀ i j, b ≤ i → i < j → j < ops.size → ((Region.before ops).getD j 0).testBit i = true ∨ (apartOf ops (opAt ops i) (opAt ops j) = true ∧ bear (mk i) (mk j) = true)) {Q : Exit → Act → World → Prop} {fr' : Frame} {H' : Heap} (hQ : ∀ a' w', Now C T m K0 nt fr' H' a' w' → Q .normal a' w') :
  ∀ (fuel : Nat) (listed : Array Bool) (fr fr1 : Frame) (H : Heap) (a : Act) (w : World), listed.size = ops.size → (∀ i, i < b → listed.getD i false = true) → Closed ops listed → (rest ops listed).length ≤ fuel →
   runD C cf nt ops ((rest ops listed).map (opAt ops)) fr H = some (fr1, H', (rest ops listed).map mk) → FEq fr1 fr' → Now C T m K0 nt fr H a w → wpAny C.P .any ops Q fuel listed a w := by
 -- all listed
 have done : ∀ (listed : Array Bool) (fr fr1 : Frame) (H : Heap) (a : Act) (w : World), rest ops listed = [] → runD C cf nt ops ((rest ops listed).map (opAt ops)) fr H = some (fr1, H', (rest ops listed).map mk) → FEq fr1 fr' →
   Now C T m K0 nt fr H a w → Q .normal a w := by
  intro listed fr fr1 H a w hr h he hN
  rw [hr] at h
  simp only [List.map_nil, runD, Option.some.injEq, Prod.mk.injEq] at h
  obtain ⟨rfl, rfl, _⟩ := h
  exact hQ a w (hN.feq he)
 intro fuel
 induction fuel with
 | zero =>
  intro listed fr fr1 H a w hs hbl hcl hlen h he hN
  have hr : rest ops listed = [] := List.eq_nil_of_length_eq_zero (Nat.le_zero.1 hlen)
  refine ⟨?_, done listed fr fr1 H a w hr h he hN⟩
  cases hrd : Region.ready .any ops listed with
  | nil => rfl
  | cons i r =>
   have : i ∈ Region.ready .any ops listed := by rw [hrd]; simp
   have := (mem_ready.1 this).1
   rw [hr] at this
   simp at this
 | succ fuel ih =>
  intro listed fr fr1 H a w hs hbl hcl hlen h he hN
  refine ⟨fun hrd => ?_, fun i hi => ?_⟩
  ·have hr : rest ops listed = [] := by
    cases hr : rest ops listed with
    | nil => rfl
    | cons i r =>
     have := ready_least hs hed hr
     rw [hrd] at this
     simp at this
   exact done listed fr fr1 H a w hr h he hN
  ·obtain ⟨hir, hedge⟩ := mem_ready.1 hi
   obtain ⟨hlt, hnl⟩ := mem_rest.1 hir
   obtain ⟨A, B, hAB⟩ := List.append_of_mem hir
   have hso := rest_sorted (ops := ops) listed
   rw [hAB] at hso
   have hA : ∀ j ∈ A, j < i := fun j hj => (List.pairwise_append.1 hso).2.2 j hj i (by simp)
   have hB : ∀ j ∈ B, i < j := fun j hj => (List.pairwise_cons.1 (List.pairwise_append.1 hso).2.1).1 j hj
   rw [at_some hlt] at hedge
   simp only [Option.map_some, Option.getD_some, Array.all_eq_true_iff_forall_mem, Bool.or_eq_true, Bool.not_eq_true'] at hedge
   have hok := edgesAll_spec hed i (opAt ops i) (by rw [Array.getElem?_toList]; exact at_some hlt)
   rw [Nat.zero_add] at hok
   -- what lies before i is listed
   have hbef : ∀ j, ((Region.before ops).getD i 0).testBit j = true → listed.getD j false = true := by
    intro j hj
    obtain ⟨e, h1, h2, h3⟩ := before_bit (at_some hlt) hok hj
    have he1 : listed.getD e.on false = true := by
     rcases hedge e (Array.mem_toList_iff.1 h1) with h4 | h4
     ·rw [h2] at h4; cases h4
     ·exact h4
    rcases h3 with rfl | h3
    ·exact he1
    ·have hlt2 : e.on < i := by
      have := List.all_eq_true.1 hok e h1
      simpa [h2] using this
     exact hcl e.on (by omega) he1 j h3
   have hfree : ∀ j ∈ A, apartOf ops (opAt ops j) (opAt ops i) = true ∧ bear (mk j) (mk i) = true := by
    intro j hj
    have hbj : b ≤ j := by
     refine Nat.le_of_not_lt fun hlt2 => ?_
     have hjr : j ∈ rest ops listed := by rw [hAB]; simp [hj]
     have h3 := mem_rest.1 hjr
     rw [getD_other (by omega)] at h3
     have := hbl j hlt2
     rw [h3.2] at this
     cases this
    rcases hpair j i hbj (hA j hj) hlt with h1 | h1
    ·have h2 := hbef j h1
     have hjr : j ∈ rest ops listed := by rw [hAB]; simp [hj]
     have h3 := (mem_rest.1 hjr).2
     rw [getD_other (by have := (mem_rest.1 hjr).1; omega)] at h3
     rw [h3] at h2
     cases h2
    ·exact h1
   rw [hAB] at h
   obtain ⟨v, H1, h1, _, fr2, h2, h3⟩ := front hct h hfree
   have hrest : rest ops (listed.setIfInBounds i true) = A ++ B := by
    have e1 : rest ops (listed.setIfInBounds i true) = (rest ops listed).filter (fun j => decide (j ≠ i)) := by
     unfold rest
     rw [List.filter_filter]
     refine List.filter_congr fun j hj => ?_
     rw [set_getD (by omega)]
     by_cases hji : j = i
     ·simp [hji]
     ·simp [hji]
    rw [e1, hAB, List.filter_append, List.filter_cons]
    simp only [ne_eq, not_true_eq_false, decide_false, Bool.false_eq_true, if_false]
    congr 1
    ·exact List.filter_eq_self.2 fun j hj => by have := hA j hj; simp; omega
    ·exact List.filter_eq_self.2 fun j hj => by have := hB j hj; simp; omega
   have next : ∀ a' w', Now C T m K0 nt (putF fr (opAt ops i).dst v) H1 a' w' → wpAny C.P .any ops Q fuel (listed.setIfInBounds i true) a' w' := by
    intro a' w' hN'
    refine ih _ _ fr2 H1 a' w' (by simp [hs]) (fun i hi => by rw [set_getD (by omega)]; split <;> first | rfl | exact hbl i hi) ?_ ?_ ?_ (fun k => (h3 k).trans (he k)) hN'
    ·intro k hk hkl j hj
     rw [set_getD (by omega)] at hkl ⊢
     split
     ·rfl
     ·split at hkl
      ·rename_i hki
       subst hki
       exact hbef j hj
      ·exact hcl k hk hkl j hj
    ·rw [hrest]
     have : (rest ops listed).length = A.length + B.length + 1 := by rw [hAB]; simp; omega
     simp
     omega
    ·rw [hrest]
     exact h2
   unfold wpOp
   rw [at_some hlt]
   simp only
   obtain ⟨μ, hI, hE0, hf, hn, hdf⟩ := id hN
   unfold out1 at h1
   split at h1
   ·rename_i hdst
    split at h1
    ·rename_i hw
     rw [wanted_ok hf hw]
     simp only [if_true]
     left
     exact step_upon hcf rfl h1 hN hdst fun u w' hN' => next _ _ hN'
    ·rename_i hw
     rw [wanted_ok hf hw]
     simp only [Bool.false_eq_true, if_false]
     simp only [Option.some.injEq, Prod.mk.injEq] at h1
     obtain ⟨rfl, rfl⟩ := h1
     exact next _ _ (skip_now hN hdst)
    ·cases h1
   ·cases h1

theorem map_range {ops : Array Oper} : (List.range ops.size).map (opAt ops) = ops.toList := by
 apply List.ext_getElem?
 intro i
 rw [List.getElem?_map]
 by_cases h : i < ops.size
 ·rw [List.getElem?_range h, Array.getElem?_toList, at_some h]
  rfl
 ·simp [h]

theorem draw_okD (hcf : CfOk C cf) (hct : CfTouch C cf) (hmix : C.P.follows .mixedOrders = true) (hed : edgesAll 0 ops.toList = true) {fr fr' : Frame} {H H' : Heap} {ms : List Mark} {a : Act} {w : World} {id : Nat} {Q : Exit → Act → World → Prop}
  (hpair : ∀ i j, i < j → j < ops.size → ((Region.before ops).getD j 0).testBit i = true ∨ (apartOf ops (opAt ops i) (opAt ops j) = true ∧ bear (ms.getD i .none) (ms.getD j .none) = true))
  (h : runD C cf nt ops ops.toList fr H = some (fr', H', ms)) (hN : Now C T m K0 nt fr H a w) (hQ : ∀ a' w', Now C T m K0 nt fr' H' a' w' → Q .normal a' w') : (Code.region id ops true).wp C.P Q a w := by
 refine wp_region_any hmix ?_
 have hall : rest ops (Array.replicate ops.size false) = List.range ops.size := by
  unfold rest
  exact List.filter_eq_self.2 fun i hi => by simp [Array.getD_eq_getD_getElem?, List.mem_range.1 hi]
 have hms : (List.range ops.size).map (fun i => ms.getD i .none) = ms := by
  have hlen := (runD_marks h).1
  apply List.ext_getElem?
  intro i
  rw [List.getElem?_map]
  by_cases hi : i < ops.size
  ·rw [List.getElem?_range hi]
   have : i < ms.length := by rw [hlen]; simpa using hi
   simp [List.getD_eq_getElem?_getD, this]
  ·have : ms.length ≤ i := by rw [hlen]; simpa using hi
   simp [hi, List.getElem?_eq_none this]
 refine any_ok hcf hct hed (mk := fun i => ms.getD i .none) 0 (fun i j _ => hpair i j) hQ ops.size _ fr fr' H a _ (by simp) (fun i hi => by omega) ?_ (by rw [hall]; simp) (by rw [hall, map_range, hms]; exact h) (fun _ => rfl) ?_
 ·intro i hi hl
  simp [Array.getD_eq_getD_getElem?, hi] at hl
 ·obtain ⟨μ, hI, hE0, hf, hn, hdf⟩ := hN
  obtain ⟨h1, h2⟩ := Inv.world (w' := { w with drawn := w.drawn + 1 }) hI (Nat.le_refl _) rfl rfl rfl (fun b _ => .inl rfl)
  exact ⟨μ, h1, hE0.trans h2 hE0.len, FRel.evo h2 (Nat.le_refl _) hf, hn, hdf⟩

theorem draw_dyn (hcf : CfOk C cf) (hct : CfTouch C cf) (hmix : C.P.follows .mixedOrders = true) (hd : drawOkD ops = true) {fr fr' : Frame} {H H' : Heap} {ms : List Mark} {a : Act} {w : World} {id : Nat} {Q : Exit → Act → World → Prop}
  (h : runD C cf nt ops ops.toList fr H = some (fr', H', ms)) (hok : marksOk (Region.before ops) ms = true) (hN : Now C T m K0 nt fr H a w) (hQ : ∀ a' w', Now C T m K0 nt fr' H' a' w' → Q .normal a' w') : (Code.region id ops true).wp C.P Q a w := by
 unfold drawOkD at hd
 simp only [Bool.and_eq_true, List.all_eq_true, List.mem_range, Bool.or_eq_true] at hd
 refine draw_okD hcf hct hmix hd.1 (fun i j hij hj => ?_) h hN hQ
 have hlen := (runD_marks h).1
 have hjm : j < ms.length := by rw [hlen]; simpa using hj
 have him : i < ms.length := by omega
 have h1 := hd.2 j hj i hij
 rw [at_some hj, at_some (show i < ops.size by omega)] at h1
 unfold marksOk at hok
 simp only [List.all_eq_true, List.mem_range, Bool.or_eq_true] at hok
 have h2 := hok j hjm i hij
 rw [List.getElem?_eq_getElem hjm, List.getElem?_eq_getElem him] at h2
 rcases h1 with h1 | h1
 ·exact .inl h1
 ·rcases h2 with h2 | h2
  ·exact .inl h2
  ·exact .inr ⟨h1, by simpa [List.getD_eq_getElem?_getD, hjm, him] using h2⟩

theorem draw_ok (hcf : CfOk C cf) (hct : CfTouch C cf) (hmix : C.P.follows .mixedOrders = true) (hd : drawOk C ops = true) {fr fr' : Frame} {H H' : Heap} {a : Act} {w : World} {id : Nat} {Q : Exit → Act → World → Prop}
  (h : runOps C cf nt ops ops.toList fr H = some (fr', H')) (hN : Now C T m K0 nt fr H a w) (hQ : ∀ a' w', Now C T m K0 nt fr' H' a' w' → Q .normal a' w') : (Code.region id ops true).wp C.P Q a w := by
 obtain ⟨ms, hms⟩ := runD_of h
 unfold drawOk at hd
 simp only [Bool.and_eq_true, List.all_eq_true, List.mem_range, Bool.or_eq_true] at hd
 refine draw_okD hcf hct hmix hd.1 (fun i j hij hj => ?_) hms hN hQ
 obtain ⟨hlen, hmk⟩ := runD_marks hms
 have hjm : j < ms.length := by rw [hlen]; simpa using hj
 have him : i < ms.length := by omega
 have h1 := hd.2 j hj i hij
 have ei := at_some (show i < ops.size by omega)
 have ej := at_some hj
 rw [ei, ej] at h1
 rcases h1 with h1 | h1
 ·exact .inl h1
 ·obtain ⟨fi, Hi, Hi', e1⟩ := hmk i _ _ (by rw [Array.getElem?_toList]; exact ei) (List.getElem?_eq_getElem him)
  obtain ⟨fj, Hj, Hj', e2⟩ := hmk j _ _ (by rw [Array.getElem?_toList]; exact ej) (List.getElem?_eq_getElem hjm)
  have := freeOf_bear h1 fi fj Hi Hi' Hj Hj'
  rw [← e1, ← e2] at this
  exact .inr ⟨this.1, by simpa [List.getD_eq_getElem?_getD, hjm, him] using this.2⟩

end

section
variable {C : Ctx} {cf : Cf} {T : Nat → Nat → Prop} {m nt : Nat} {K0 : Kx} {ops : Array Oper}

/-- n and the one behind it, for one another -/
def twx (n j : Nat) : Nat := if j = n then n + 1 else if j = n + 1 then n else j
theorem twx_x (n j : Nat) : twx n (twx n j) = j := by
 unfold twx
 by_cases h1 : j = n
 ·simp [h1]
 ·by_cases h2 : j = n + 1
  ·simp [h2]
  ·simp [h1, h2]
theorem twx_lt {n j : Nat} (h : j < n) : twx n j = j := by
 unfold twx
 rw [if_neg (by omega), if_neg (by omega)]

theorem twx_at (H : Heap) (x y : Option Obj) (j : Nat) : (H ++ [x, y])[j]? = (H ++ [y, x])[twx H.length j]? := by
 by_cases h1 : j < H.length
 ·rw [twx_lt h1, List.getElem?_append_left h1, List.getElem?_append_left h1]
 ·by_cases h2 : j = H.length
  ·subst h2
   have : twx H.length H.length = H.length + 1 := by unfold twx; rw [if_pos rfl]
   rw [this, List.getElem?_append_right (Nat.le_refl _), List.getElem?_append_right (by omega)]
   simp
  ·by_cases h3 : j = H.length + 1
   ·subst h3
    have : twx H.length (H.length + 1) = H.length := by unfold twx; rw [if_neg (by omega), if_pos rfl]
    rw [this, List.getElem?_append_right (Nat.le_refl _), List.getElem?_append_right (by omega)]
    simp
   ·have : twx H.length j = j := by unfold twx; rw [if_neg h2, if_neg h3]
    rw [this, List.getElem?_eq_none (by simp; omega), List.getElem?_eq_none (by simp; omega)]

theorem objOk_plain {K : Kx} {o : Nat} {ob : Obj} (h : isPm ob.p = false) : ObjOk K T o ob ↔ ShapeOk (K.μ o) ob ∧ CellsOk K T (K.μ o) ob := by
 unfold ObjOk
 split
 ·rename_i heq; rw [heq] at h; simp [isPm] at h
 ·exact Iff.rfl

/-- two objects that hold no handles, made in the other order -/
theorem twin_inv {H : Heap} {μ : Nat → Pl} {w : World} {x y : Obj} (hI0 : Inv C K0 T) (hH : K0.H = H) (hI : Inv C ⟨μ, H ++ [some y, some x], w⟩ T) (hE : Evo T H.length K0 ⟨μ, H ++ [some y, some x], w⟩)
  (hold : ∀ b, b < K0.w.heap.size → w.heap[b]? = K0.w.heap[b]?) (hx : x.ids = false) (hx2 : isPm x.p = false) (hy : y.ids = false) (hy2 : isPm y.p = false) :
  Inv C ⟨fun j => μ (twx H.length j), H ++ [some x, some y], w⟩ T ∧ Evo T H.length K0 ⟨fun j => μ (twx H.length j), H ++ [some x, some y], w⟩ := by
 have hA := twx_at H (some x) (some y)
 have hOwn : ∀ b, Own ⟨fun j => μ (twx H.length j), H ++ [some x, some y], w⟩ b ↔ Own ⟨μ, H ++ [some y, some x], w⟩ b := by
  intro b
  constructor
  ·rintro ⟨o, ob, h1, h2, h3⟩
   exact ⟨twx H.length o, ob, by rw [← hA]; exact h1, h2, h3⟩
  ·rintro ⟨o, ob, h1, h2, h3⟩
   refine ⟨twx H.length o, ob, ?_, ?_, ?_⟩
   ·show (H ++ [some x, some y])[twx H.length o]? = _
    rw [hA, twx_x]; exact h1
   ·show Real ob (μ (twx H.length (twx H.length o)))
    rw [twx_x]; exact h2
   ·show (μ (twx H.length (twx H.length o))).blk = b
    rw [twx_x]; exact h3
 have hNT : NT ⟨fun j => μ (twx H.length j), H ++ [some x, some y], w⟩ T = NT ⟨μ, H ++ [some y, some x], w⟩ T := by
  funext t b
  refine propext ?_
  unfold NT
  rw [hOwn]
 have hE1 : Evo T H.length ⟨μ, H ++ [some y, some x], w⟩ ⟨fun j => μ (twx H.length j), H ++ [some x, some y], w⟩ := by
  refine ⟨by simp, by simp, Nat.le_refl _, rfl, rfl, rfl, fun o ho ob' h => ⟨ob', ?_, Nat.le_refl _, fun _ => ⟨?_, Same.refl _⟩⟩, fun b _ h => (hOwn b).1 h, fun _ _ _ _ => rfl, fun _ _ _ _ => rfl⟩
  ·have h' : (H ++ [some x, some y])[o]? = _ := h
   rw [hA, twx_lt ho] at h'
   exact h'
  ·show μ (twx H.length o) = μ o
   rw [twx_lt ho]
 have hE2 := hE.trans hE1 (Nat.le_refl _)
 have hcells : ∀ (o o' : Nat) (ob : Obj), ob.ids = false → isPm ob.p = false → μ (twx H.length o) = μ o' → ObjOk ⟨μ, H ++ [some y, some x], w⟩ T o' ob → ObjOk ⟨fun j => μ (twx H.length j), H ++ [some x, some y], w⟩ T o ob := by
  intro o o' ob h1 h2 h3 h4
  rw [objOk_plain h2] at h4 ⊢
  simp only at h4 ⊢
  rw [h3]
  refine ⟨h4.1, fun hc => ?_⟩
  obtain ⟨cur, E, g1, g2, g3, g4⟩ := h4.2 hc
  refine ⟨cur, E, g1, g2, g3, ?_⟩
  unfold PayOk at g4 ⊢
  rw [h1] at g4 ⊢
  simp only [Bool.false_eq_true, if_false] at g4 ⊢
  rw [hNT]
  exact g4
 refine ⟨⟨?_, ?_, ?_, ?_, ?_, ?_⟩, hE2⟩
 ·intro o ob h
  by_cases h1 : o < H.length
  ·have h2 : H[o]? = some (some ob) := by
    have h' : (H ++ [some x, some y])[o]? = _ := h
    rwa [List.getElem?_append_left h1] at h'
   have h3 : K0.H[o]? = some (some ob) := by rw [hH]; exact h2
   obtain ⟨ob0, q1, q2, q3⟩ := hE2.obj o h1 ob h
   rw [h3] at q1
   obtain rfl := Option.some.inj (Option.some.inj q1)
   exact ObjOk.evo hE2 (by rw [hH]; exact Nat.le_refl _) (q3 rfl).1 (fun hr => hold _ (hI0.own _ ⟨o, ob, h3, hr, rfl⟩).1) (hI0.obj o ob h3)
  ·have h' : (H ++ [some x, some y])[o]? = some (some ob) := h
   rw [List.getElem?_append_right (by omega)] at h'
   have h2 : o - H.length = 0 ∨ o - H.length = 1 := by
    by_cases h4 : o - H.length < 2
    ·omega
    ·rw [List.getElem?_eq_none (by simp; omega)] at h'
     cases h'
   rcases h2 with h2 | h2
   ·rw [h2] at h'
    obtain rfl : x = ob := by simpa using h'
    have ho : o = H.length := by omega
    subst ho
    refine hcells _ (H.length + 1) _ hx hx2 (by unfold twx; rw [if_pos rfl]) (hI.obj _ _ ?_)
    show (H ++ [some y, some x])[H.length + 1]? = _
    rw [List.getElem?_append_right (by omega)]
    simp
   ·rw [h2] at h'
    obtain rfl : y = ob := by simpa using h'
    have ho : o = H.length + 1 := by omega
    subst ho
    refine hcells _ H.length _ hy hy2 (by unfold twx; rw [if_neg (by omega), if_pos rfl]) (hI.obj _ _ ?_)
    show (H ++ [some y, some x])[H.length]? = _
    simp
 ·intro o o' ob ob' h h' r r' e
  have h1 : (H ++ [some x, some y])[o]? = _ := h
  have h2 : (H ++ [some x, some y])[o']? = _ := h'
  rw [hA] at h1 h2
  have := hI.inj (twx H.length o) (twx H.length o') ob ob' h1 h2 r r' e
  have := congrArg (twx H.length) this
  rwa [twx_x, twx_x] at this
 ·intro b hb
  exact hI.own b ((hOwn b).1 hb)
 ·exact hI.new
 ·exact hI.mono
 ·intro g p hg
  have := hI.glob g p hg
  rw [hNT]
  exact this

theorem zeroRow_pm {e : TypeId} {n : Nat} {p : AV} (h : zeroRow C e n = some p) : isPm p = false := by
 unfold zeroRow at h
 simp only at h
 split at h
 ·split at h
  all_goals first
   | (simp only [Option.some.injEq] at h; subst h; rfl)
   | (split at h <;> first | (simp only [Option.some.injEq] at h; subst h; rfl) | cases h)
   | cases h
 ·cases h

theorem mkS_of {H H' : Heap} {t : TypeId} {l c : Int} {r : AV} (h : makeSliceV C H t (.int .i64 l) (.int .i64 c) = some (r, H')) : ∃ n ob, r = .sl H.length 0 n 0 ∧ H' = H ++ [some ob] ∧ ob.ids = false ∧ isPm ob.p = false ∧
  ∀ H2, makeSliceV C H2 t (.int .i64 l) (.int .i64 c) = some (.sl H2.length 0 n 0, H2 ++ [some ob]) := by
 unfold makeSliceV at h ⊢
 split at h
 ·rename_i e l' c' hu e1 e2
  simp only [AV.int.injEq, true_and] at e1 e2
  subst e1 e2
  split at h
  ·rename_i hcd
   cases hz : zeroRow C e l.toNat with
   | none => rw [hz] at h; cases h
   | some p =>
    rw [hz] at h
    simp only [Option.map_some, Option.some.injEq, Prod.mk.injEq] at h
    obtain ⟨rfl, rfl⟩ := h
    refine ⟨l.toNat, _, rfl, rfl, rfl, zeroRow_pm hz, fun H2 => ?_⟩
    simp only [hcd, hz]
    rfl
  ·cases h
 ·cases h

/-- such an operation, run -/
theorem mkS_step {H : Heap} {a : Act} {w : World} {μ : Nat → Pl} {o : Oper} {t : TypeId} {l c : Int} {r : AV} {H' : Heap} (ho : o.op = .makeSlice t (.const (.int .i64 l)) (.const (.int .i64 c))) (hI : Inv C ⟨μ, H, w⟩ T)
  (h : makeSliceV C H t (.int .i64 l) (.int .i64 c) = some (r, H')) : ∃ u w' μ', (execOp a.eval o).run C.P w = .ok (.value u) w' ∧ Inv C ⟨μ', H', w'⟩ T ∧ Evo T H.length ⟨μ, H, w⟩ ⟨μ', H', w'⟩ ∧ VRel ⟨μ', H', w'⟩ T r u ∧ ∀ b, b < w.heap.size → w'.heap[b]? = w.heap[b]? := by
 obtain ⟨u, w', μ', h1, h2, h3, h4, h5⟩ := makeSliceV_ok' (K := ⟨μ, H, w⟩) hI (l := .int .i64 l) (c := .int .i64 c) (vl := .int .i64 l) (vc := .int .i64 c) (by simp [VRel, V1Rel, SRel, RV]) (by simp [VRel, V1Rel, SRel, RV]) h
 refine ⟨u, w', μ', ?_, h2, h3, h4, h5⟩
 unfold execOp
 simp only [ho]
 have e : ∀ v, a.eval (.const v) = v := fun v => rfl
 simp only [e, Sem.run_bind, h1, Result.andThen_ok, Sem.run_pure]

theorem twinOp_spec {o : Oper} (h : twinOp o = true) : ∃ t l c d, o.op = .makeSlice t (.const (.int .i64 l)) (.const (.int .i64 c)) ∧ o.guard = none ∧ o.dst = some d := by
 unfold twinOp at h
 split at h
 ·rename_i t l c h1 h2
  obtain ⟨d, hd⟩ := Option.isSome_iff_exists.1 h
  exact ⟨t, l, c, d, h1, h2, hd⟩
 ·cases h

theorem twin_out {o : Oper} {t : TypeId} {l c : Int} {d : Nat} {fr : Frame} {H H' : Heap} {v : AV} (h1 : o.op = .makeSlice t (.const (.int .i64 l)) (.const (.int .i64 c))) (h2 : o.guard = none) (h3 : o.dst = some d)
  (h : out1 C cf nt ops o fr H = some (v, H')) : d < nt ∧ makeSliceV C H t (.int .i64 l) (.int .i64 c) = some (v, H') := by
 unfold out1 at h
 split at h
 ·rename_i hd
  have hw : wantedV ops fr o = some true := by unfold wantedV; rw [h2]
  rw [hw] at h
  simp only at h
  refine ⟨by simpa [dstOk, h3] using hd, ?_⟩
  unfold step at h
  simp only [h1] at h
  exact h
 ·cases h

end

section
variable {C : Ctx} {cf : Cf} {T : Nat → Nat → Prop} {m nt : Nat} {K0 : Kx} {ops : Array Oper}

theorem ready_bef {listed : Array Bool} (hed : edgesAll 0 ops.toList = true) (hcl : Closed ops listed) {i : Nat} (hi : i ∈ Region.ready .any ops listed) : ∀ j, ((Region.before ops).getD i 0).testBit j = true → listed.getD j false = true := by
 obtain ⟨hir, hedge⟩ := mem_ready.1 hi
 obtain ⟨hlt, hnl⟩ := mem_rest.1 hir
 rw [at_some hlt] at hedge
 simp only [Option.map_some, Option.getD_some, Array.all_eq_true_iff_forall_mem, Bool.or_eq_true, Bool.not_eq_true'] at hedge
 have hok := edgesAll_spec hed i (opAt ops i) (by rw [Array.getElem?_toList]; exact at_some hlt)
 rw [Nat.zero_add] at hok
 intro j hj
 obtain ⟨e, h1, h2, h3⟩ := before_bit (at_some hlt) hok hj
 have he1 : listed.getD e.on false = true := by
  rcases hedge e (Array.mem_toList_iff.1 h1) with h4 | h4
  ·rw [h2] at h4; cases h4
  ·exact h4
 rcases h3 with rfl | h3
 ·exact he1
 ·have hlt2 : e.on < i := by
   have := List.all_eq_true.1 hok e h1
   simpa [h2] using this
  exact hcl e.on (by omega) he1 j h3

theorem closed_set {listed : Array Bool} {i : Nat} (hs : listed.size = ops.size) (hi : i < ops.size) (hcl : Closed ops listed) (hbef : ∀ j, ((Region.before ops).getD i 0).testBit j = true → listed.getD j false = true) : Closed ops (listed.setIfInBounds i true) := by
 intro k hk hkl j hj
 rw [set_getD (by omega)] at hkl ⊢
 split
 ·rfl
 ·split at hkl
  ·rename_i hki
   subst hki
   exact hbef j hj
  ·exact hcl k hk hkl j hj

theorem rep_getD {s j : Nat} {d : Bool} (h : j < s) : (Array.replicate s false).getD j d = false := by
 simp [Array.getD_eq_getD_getElem?, h]

theorem wpOp_val {Q : Exit → Act → World → Prop} {i : Nat} {o : Oper} {next : Act → World → Prop} {a : Act} {w w' : World} {u : Value} (hi : ops[i]? = some o) (hg : o.guard = none) (h : (execOp a.eval o).run C.P w = .ok (.value u) w') (hnext : next (a.put o.dst u) w') : wpOp C.P ops Q i next a w := by
 unfold wpOp
 rw [hi]
 simp only
 have hw : Region.wanted o (yielded ops a.tmps) = true := by unfold Region.wanted; rw [hg]
 rw [hw]
 simp only [if_true]
 left
 unfold Oper.wp
 rw [h, Oper.upon_value]
 exact hnext

set_option maxHeartbeats 1000000 in
theorem draw_twin (hcf : CfOk C cf) (hct : CfTouch C cf) (hmix : C.P.follows .mixedOrders = true) (hd : drawOkD ops = true) (ht : twinOk ops = true) {fr fr' : Frame} {H H' : Heap} {ms : List Mark} {a : Act} {w : World} {id : Nat} {Q : Exit → Act → World → Prop} (hok : marksOk1 (Region.before ops) ms = true)
  (h : runD C cf nt ops ops.toList fr H = some (fr', H', ms)) (hN : Now C T m K0 nt fr H a w) (hQ : ∀ a' w', Now C T m K0 nt fr' H' a' w' → Q .normal a' w') : (Code.region id ops true).wp C.P Q a w := by
 have hp : ∀ i j, 1 ≤ i → i < j → j < ops.size → ((Region.before ops).getD j 0).testBit i = true ∨ (apartOf ops (opAt ops i) (opAt ops j) = true ∧ bear (ms.getD i .none) (ms.getD j .none) = true) := by
  unfold drawOkD at hd
  simp only [Bool.and_eq_true, List.all_eq_true, List.mem_range, Bool.or_eq_true] at hd
  intro i j hi1 hij hj
  have hlen := (runD_marks h).1
  have hjm : j < ms.length := by rw [hlen]; simpa using hj
  have him : i < ms.length := by omega
  have h1 := hd.2 j hj i hij
  rw [at_some hj, at_some (show i < ops.size by omega)] at h1
  unfold marksOk1 at hok
  simp only [List.all_eq_true, List.mem_range, Bool.or_eq_true, decide_eq_true_eq] at hok
  have h2 := (hok j hjm i hij).resolve_left (by omega)
  rw [List.getElem?_eq_getElem hjm, List.getElem?_eq_getElem him] at h2
  rcases h1 with h1 | h1
  ·exact .inl h1
  ·rcases h2 with h2 | h2
   ·exact .inl h2
   ·exact .inr ⟨h1, by simpa [List.getD_eq_getElem?_getD, hjm, him] using h2⟩
 have hed : edgesAll 0 ops.toList = true := by
  unfold drawOkD at hd
  simp only [Bool.and_eq_true] at hd
  exact hd.1
 unfold twinOk at ht
 simp only [Bool.and_eq_true, List.all_eq_true, List.mem_range, Bool.or_eq_true, decide_eq_true_eq] at ht
 obtain ⟨ht1, ht2⟩ := ht
 split at ht1
 ·rename_i x y hx hy
  simp only [Bool.and_eq_true, decide_eq_true_eq] at ht1
  obtain ⟨hx1, hy1, hne⟩ := ht1
  have hsz : 2 ≤ ops.size := by
   have := (Array.getElem?_eq_some_iff.1 hy).1
   omega
  have ex : opAt ops 0 = x := by have := at_some (ops := ops) (i := 0) (by omega); rw [hx] at this; exact (Option.some.inj this).symm
  have ey : opAt ops 1 = y := by have := at_some (ops := ops) (i := 1) (by omega); rw [hy] at this; exact (Option.some.inj this).symm
  obtain ⟨t0, l0, c0, d0, a1, a2, a3⟩ := twinOp_spec hx1
  obtain ⟨t1, l1, c1, d1, b1, b2, b3⟩ := twinOp_spec hy1
  rw [a3, b3] at hne
  have hr : List.range ops.size = 0 :: 1 :: List.range' 2 (ops.size - 2) := by
   obtain ⟨k, hk⟩ : ∃ k, ops.size = k + 2 := ⟨ops.size - 2, by omega⟩
   rw [hk, List.range_eq_range']
   simp [List.range'_succ]
  have hml := (runD_marks h).1
  have hms : ms = (List.range ops.size).map (fun i => ms.getD i .none) := by
   apply List.ext_getElem?
   intro i
   rw [List.getElem?_map]
   by_cases hi : i < ops.size
   ·rw [List.getElem?_range hi]
    have : i < ms.length := by rw [hml]; simpa using hi
    simp [List.getD_eq_getElem?_getD, this]
   ·have : ms.length ≤ i := by rw [hml]; simpa using hi
    simp [hi, List.getElem?_eq_none this]
  rw [← map_range, hr] at h
  simp only [List.map_cons, ex, ey, runD] at h
  split at h
  ·rename_i v0 H1 ho0
   split at h
   ·rename_i frz Hz msz hrz
    split at hrz
    ·rename_i v1 H2 ho1
     split at hrz
     ·rename_i fry Hy msy hry
      simp only [Option.some.injEq, Prod.mk.injEq] at h hrz
      obtain ⟨rfl, rfl, rfl⟩ := hrz
      obtain ⟨rfl, rfl, hmm⟩ := h
      obtain ⟨hd0, m0⟩ := twin_out a1 a2 a3 ho0
      obtain ⟨hd1, m1⟩ := twin_out b1 b2 b3 ho1
      obtain ⟨n0, X, rfl, rfl, x1, x2, x3⟩ := mkS_of m0
      obtain ⟨n1, Y, rfl, rfl, y1, y2, y3⟩ := mkS_of m1
      obtain ⟨mk, hmk⟩ : ∃ mk : Nat → Mark, mk = fun i => ms.getD i .none := ⟨_, rfl⟩
      rw [← hmk, hr] at hms
      have hm1 : markOf C ops (putF fr x.dst (.sl H.length 0 n0 0)) (H ++ [some X]) (H ++ [some X] ++ [some Y]) y = mk 1 ∧ msy = (List.range' 2 (ops.size - 2)).map mk := by
       rw [← hmm] at hms
       simp only [List.map_cons, List.cons.injEq] at hms
       exact ⟨hms.2.1, hms.2.2⟩
      rw [a3, b3] at hry
      rw [a3] at ho1 hm1
      refine wp_region_any hmix ?_
      have hsR : (Array.replicate ops.size false).size = ops.size := by simp
      have hclR : Closed ops (Array.replicate ops.size false) := fun i hi hl => by rw [rep_getD hi] at hl; cases hl
      have hN' : Now C T m K0 nt fr H a { w with drawn := w.drawn + 1 } := by
       obtain ⟨μ, hI, hE0, hf, hn, hdf⟩ := hN
       obtain ⟨h1, h2⟩ := Inv.world (w' := { w with drawn := w.drawn + 1 }) hI (Nat.le_refl _) rfl rfl rfl (fun b _ => .inl rfl)
       exact ⟨μ, h1, hE0.trans h2 hE0.len, FRel.evo h2 (Nat.le_refl _) hf, hn, hdf⟩
      clear hN
      generalize ({ w with drawn := w.drawn + 1 } : World) = w at hN'
      obtain ⟨fu, hfu⟩ : ∃ fu, ops.size = fu + 2 := ⟨ops.size - 2, by omega⟩
      have hfu2 : ∀ L a w, wpAny C.P .any ops Q (fu + 2) L a w → wpAny C.P .any ops Q ops.size L a w := fun L a w h => by rw [hfu]; exact h
      refine hfu2 _ _ _ ?_
      have hfirst : ∀ i, i ∈ Region.ready .any ops (Array.replicate ops.size false) → i = 0 ∨ i = 1 := by
       intro i hi
       have hb := ready_bef hed hclR hi
       by_cases h2 : i < 2
       ·omega
       ·have hlt := (mem_rest.1 (mem_ready.1 hi).1).1
        have := hb 0 ((ht2 i hlt).resolve_left h2)
        rw [rep_getD (by omega)] at this
        cases this
      have hrest0 : rest ops (Array.replicate ops.size false) = List.range ops.size := by
       unfold rest
       exact List.filter_eq_self.2 fun i hi => by rw [rep_getD (List.mem_range.1 hi)]; rfl
      unfold wpAny
      refine ⟨fun hrd => ?_, fun i hi => ?_⟩
      ·have := ready_least hsR hed (i := 0) (r := 1 :: List.range' 2 (ops.size - 2)) (by rw [hrest0, hr])
       rw [hrd] at this
       simp at this
      rcases hfirst i hi with rfl | rfl
      ·obtain ⟨μ, hI, hE0, hf, hn, hdf⟩ := _root_.id hN'
       obtain ⟨u, w1, μ1, q1, q2, q3, q4, _⟩ := mkS_step (a := a) a1 hI (x3 H)
       refine wpOp_val hx a2 q1 ?_
       have hN1 := Now.put (nt := nt) (d := some d0) hE0 hf hn hdf q2 q3 q4 (by simpa [dstOk] using hd0)
       rw [a3]
       have hL0 : ∀ j, j < ops.size → ∀ d, ((Array.replicate ops.size false).setIfInBounds 0 true).getD j d = decide (j = 0) := fun j hj d => by
        rw [set_getD (by simp; omega)]
        by_cases hj0 : j = 0
        ·simp [hj0]
        ·rw [if_neg hj0, rep_getD hj]; simp [hj0]
       have hr1 : rest ops ((Array.replicate ops.size false).setIfInBounds 0 true) = 1 :: List.range' 2 (ops.size - 2) := by
        unfold rest
        rw [hr, List.filter_cons, hL0 0 (by omega), List.filter_cons, hL0 1 (by omega)]
        simp only [decide_true, Bool.not_true, Bool.false_eq_true, if_false, Nat.one_ne_zero, decide_false, Bool.not_false, if_true]
        congr 1
        refine List.filter_eq_self.2 fun j hj => ?_
        have := List.mem_range'_1.1 hj
        rw [hL0 j (by omega)]
        simp
        omega
       refine any_ok hcf hct hed (mk := mk) 1 (fun i j hi hij hj => by rw [hmk]; exact hp i j (by omega) hij hj) hQ (fu + 1) _ (putF fr (some d0) (.sl H.length 0 n0 0)) _ (H ++ [some X]) _ _ (by simp) (fun i hi => by rw [hL0 i (by omega)]; simp; omega) (closed_set hsR (by omega) hclR (ready_bef hed hclR hi)) (by rw [hr1]; simp; omega) ?_ (fun _ => rfl) hN1
       rw [hr1, List.map_cons, List.map_cons, ey, runD, ho1]
       simp only [b3]
       rw [hry]
       simp only [hm1.1, hm1.2]
      ·obtain ⟨μ, hI, hE0, hf, hn, hdf⟩ := _root_.id hN'
       obtain ⟨u1, w1, μ1, q1, q2, q3, q4, q5⟩ := mkS_step (a := a) b1 hI (y3 H)
       refine wpOp_val hy b2 q1 ?_
       rw [b3]
       have hL1 : ∀ j, j < ops.size → ∀ d, ((Array.replicate ops.size false).setIfInBounds 1 true).getD j d = decide (j = 1) := fun j hj d => by
        rw [set_getD (by simp; omega)]
        by_cases hj0 : j = 1
        ·simp [hj0]
        ·rw [if_neg hj0, rep_getD hj]; simp [hj0]
       have hcl1 := closed_set hsR (by omega) hclR (ready_bef hed hclR hi)
       have hs1 : ((Array.replicate ops.size false).setIfInBounds 1 true).size = ops.size := by simp
       have hsecond : ∀ i, i ∈ Region.ready .any ops ((Array.replicate ops.size false).setIfInBounds 1 true) → i = 0 := by
        intro i hi
        have hb := ready_bef hed hcl1 hi
        have hm := mem_rest.1 (mem_ready.1 hi).1
        rw [hL1 i hm.1] at hm
        have hi1 : ¬ i = 1 := by simpa using hm.2
        by_cases h2 : i < 2
        ·omega
        ·have := hb 0 ((ht2 i hm.1).resolve_left h2)
         rw [hL1 0 (by omega)] at this
         simp at this
       have hr1 : rest ops ((Array.replicate ops.size false).setIfInBounds 1 true) = 0 :: List.range' 2 (ops.size - 2) := by
        unfold rest
        rw [hr, List.filter_cons, hL1 0 (by omega), List.filter_cons, hL1 1 (by omega)]
        simp only [decide_true, Bool.not_true, Bool.false_eq_true, if_false, show (0 : Nat) = 1 ↔ False by simp, decide_false, Bool.not_false, if_true]
        congr 1
        refine List.filter_eq_self.2 fun j hj => ?_
        have := List.mem_range'_1.1 hj
        rw [hL1 j (by omega)]
        simp
        omega
       unfold wpAny
       refine ⟨fun hrd => ?_, fun i hi2 => ?_⟩
       ·have := ready_least hs1 hed hr1
        rw [hrd] at this
        simp at this
       obtain rfl := hsecond i hi2
       obtain ⟨u0, w2, μ2, p1, p2, p3, p4, p5⟩ := mkS_step (a := a.put (some d1) u1) a1 q2 (x3 (H ++ [some Y]))
       refine wpOp_val hx a2 p1 ?_
       rw [a3]
       have eA : H ++ [some Y] ++ [some X] = H ++ [some Y, some X] := by simp
       have eB : H ++ [some X] ++ [some Y] = H ++ [some X, some Y] := by simp
       have eL : (H ++ [some Y]).length = H.length + 1 := by simp
       have eM : (H ++ [some X]).length = H.length + 1 := by simp
       rw [eA] at p2 p3 p4
       rw [eL] at p3 p4
       have hE2 := q3.trans p3 (Nat.le_succ _)
       obtain ⟨z1, z2⟩ := twin_inv hI rfl p2 hE2 (fun b hb => by rw [p5 b (Nat.lt_of_lt_of_le hb q3.size)]; exact q5 b hb) x1 x2 y1 y2
       have q4' := VRel.evo p3 (by simp) q4
       have v1 : VRel ⟨fun j => μ2 (twx H.length j), H ++ [some X, some Y], w2⟩ T (.sl (H.length + 1) 0 n1 0) u1 := by
        simp only [VRel, V1Rel, SRel] at q4' ⊢
        refine ⟨by simp, q4'.2.1, fun ob hob => ?_⟩
        rw [twx_at] at hob
        have es : twx H.length (H.length + 1) = H.length := by unfold twx; rw [if_neg (by omega), if_pos rfl]
        rw [es] at hob ⊢
        exact q4'.2.2 ob hob
       have v0 : VRel ⟨fun j => μ2 (twx H.length j), H ++ [some X, some Y], w2⟩ T (.sl H.length 0 n0 0) u0 := by
        simp only [VRel, V1Rel, SRel] at p4 ⊢
        refine ⟨by simp, p4.2.1, fun ob hob => ?_⟩
        rw [twx_at] at hob
        have es : twx H.length H.length = H.length + 1 := by unfold twx; rw [if_pos rfl]
        rw [es] at hob ⊢
        exact p4.2.2 ob hob
       have f1 := FRel.put (d := some d1) (FRel.evo z2 (Nat.le_refl _) hf) v1 (fun i hi => by cases hi; omega)
       have f0 := FRel.put (a := a.put (some d1) u1) (d := some d0) f1 v0 (fun i hi => by cases hi; rw [put_size]; omega)
       have hN2 : Now C T m K0 nt (putF (putF fr (some d1) (.sl (H.length + 1) 0 n1 0)) (some d0) (.sl H.length 0 n0 0)) (H ++ [some X, some Y]) ((a.put (some d1) u1).put (some d0) u0) w2 :=
        ⟨_, z1, hE0.trans z2 hE0.len, f0, by rw [put_size, put_size]; exact hn, by rw [put_defers, put_defers]; exact hdf⟩
       have hN3 := hN2.feq (putF_comm fr (.sl (H.length + 1) 0 n1 0) (.sl H.length 0 n0 0) (d := some d1) (e := some d0) (fun k hk hk2 => hne (hk2.trans hk.symm)))
       rw [eB, eM] at hry
       have hL2 : ∀ j, j < ops.size → ∀ d, (((Array.replicate ops.size false).setIfInBounds 1 true).setIfInBounds 0 true).getD j d = decide (j < 2) := fun j hj d => by
        rw [set_getD (by simp; omega)]
        by_cases hj0 : j = 0
        ·simp [hj0]
        ·rw [if_neg hj0, hL1 j hj]
         by_cases hj1 : j = 1
         ·simp [hj1]
         ·simp [hj1]; omega
       have hr2 : rest ops (((Array.replicate ops.size false).setIfInBounds 1 true).setIfInBounds 0 true) = List.range' 2 (ops.size - 2) := by
        unfold rest
        rw [hr, List.filter_cons, hL2 0 (by omega), List.filter_cons, hL2 1 (by omega)]
        simp only [show (0 : Nat) < 2 by omega, show (1 : Nat) < 2 by omega, decide_true, Bool.not_true, Bool.false_eq_true, if_false]
        refine List.filter_eq_self.2 fun j hj => ?_
        have := List.mem_range'_1.1 hj
        rw [hL2 j (by omega)]
        simp
        omega
       refine any_ok hcf hct hed (mk := mk) 2 (fun i j hi hij hj => by rw [hmk]; exact hp i j (by omega) hij hj) hQ fu _ (putF (putF fr (some d0) (.sl H.length 0 n0 0)) (some d1) (.sl (H.length + 1) 0 n1 0)) _ (H ++ [some X, some Y]) _ _ (by simp) (fun i hi => by rw [hL2 i (by omega)]; simp; omega) (closed_set hs1 (by omega) hcl1 (ready_bef hed hcl1 hi2)) (by rw [hr2]; simp; omega) ?_ (fun _ => rfl) hN3
       rw [hr2, hry, hm1.2]
     ·cases hrz
    ·cases hrz
   ·cases h
  ·cases h
 ·cases ht1

end

end Go.AM
