/- The abstract machine, part 1: a deterministic evaluator for the program's code and the proof that what it tells is so. Conditions: none beyond the theorems' own. -/
import Derived.Laws.Sem
import Derived.MapKept
import Derived.WideKeyRuns
import Derived.Test.YtfkbemllgeopfaaDoorAm0
set_option linter.unusedSimpArgs false
set_option linter.unusedVariables false
/- Parts of values, lengths, conversions. -/
namespace Go.AM

theorem CRel.part {C : Ctx} {K : Kx} {T : Nat → Nat → Prop} {t : TypeId} {l : List AV} {cs : Array Value} {q : AV} {off : Nat} (hc : CRel K T l (fun j => cs[j]?)) (hl : l.length = cs.size)
  (hlen : ((l.drop off).take (sizeT C t)).length = sizeT C t) (hq : mkAgg C t ((l.drop off).take (sizeT C t)) = some q) :
  VRel K T (.agg q) (.agg (cs.extract off (off + sizeT C t))) := by
 have h1 := CRel.sub hc off (sizeT C t)
 have hle : sizeT C t ≠ 0 → off + sizeT C t ≤ cs.size := by
  intro h0; simp at hlen; omega
 have hget : ∀ j, j < sizeT C t → (cs.extract off (off + sizeT C t))[j]? = cs[off + j]? := by
  intro j hj
  have := hle (by omega)
  simp [Array.getElem?_extract]
  omega
 have h2 : CRel K T ((l.drop off).take (sizeT C t)) (fun j => (cs.extract off (off + sizeT C t))[j]?) := by
  intro j a ha
  obtain ⟨v, h3, h4⟩ := h1 j a ha
  exact ⟨v, by rw [← h3]; exact hget j (get_sub ha).2, h4⟩
 obtain ⟨h3, h4⟩ := mkAgg_rel h2 hq
 simp only [VRel, V1Rel]
 refine ⟨_, rfl, ?_, h3⟩
 rw [h4, hlen]
 by_cases h0 : sizeT C t = 0
 ·simp [h0]; omega
 ·have := hle h0
  simp; omega

theorem fieldV_ok {C : Ctx} {K : Kx} {T : Nat → Nat → Prop} {t : TypeId} {a x : AV} {n : Nat} {v : Value} (hv : VRel K T a v) (h : fieldV C t a n = some x) :
  ∃ u, (Instr.field t v n).run C.P K.w = .ok u K.w ∧ VRel K T x u := by
 unfold fieldV at h
 split at h
 ·rename_i l fd hfd
  obtain ⟨fs, hu, hf⟩ := fieldsOf_get hfd
  simp only [VRel, V1Rel] at hv
  obtain ⟨cs, rfl, h1, h2⟩ := hv
  simp only [cellsLen, plen, pesz, Nat.mul_one] at h1
  have go : ∀ u, (part fd.type cs fd.offset).run C.P K.w = .ok u K.w → (Instr.field t (.agg cs) n).run C.P K.w = .ok u K.w := by
   intro u hp
   simp [Instr.field, run_und hu, hf, asAgg, hp]
  split at h
  ·rename_i ha
   obtain ⟨d, hd⟩ := isAggT_some ha
   split at h
   ·rename_i hlen
    simp only [Option.map_eq_some_iff] at h
    obtain ⟨q, hq, rfl⟩ := h
    refine ⟨_, go _ ?_, CRel.part h2 h1.symm hlen hq⟩
    simp [part, run_isAgg hd, ha, run_sizeOf hd]
   ·cases h
  ·rename_i ha
   split at h
   ·rename_i hok
    obtain ⟨d, hd, _⟩ := okT_some hok
    obtain ⟨u, h3, _, h4⟩ := h2 _ _ h
    refine ⟨u, go u ?_, VRel.s h4⟩
    simp only at h3
    simp [part, run_isAgg hd, ha, h3]
   ·cases h
 ·cases h

theorem indexV_ok {C : Ctx} {K : Kx} {T : Nat → Nat → Prop} {t : TypeId} {a ix x : AV} {v vi : Value} (hv : VRel K T a v) (hi : VRel K T ix vi) (h : indexV C t a ix = some x) :
  ∃ u, (Instr.index t v vi).run C.P K.w = .ok u K.w ∧ VRel K T x u := by
 unfold indexV at h
 split at h
 ·rename_i k n
  have := hi.int
  subst this
  split at h
  ·rename_i s
   have := hv.str
   subst this
   split at h
   ·rename_i hu
    have hu' := isStrT_some hu
    split at h
    ·rename_i h0
     simp only [Option.map_eq_some_iff] at h
     obtain ⟨b, hb, rfl⟩ := h
     refine ⟨.int .u8 b.toNat, ?_, by simp [VRel, V1Rel, SRel, RV, byteAV]⟩
     have hg : (⟨⟨s⟩⟩ : ByteArray)[n.toNat]? = some b := by
      obtain ⟨hlt, hb'⟩ := List.getElem?_eq_some_iff.1 hb
      exact (getElem?_pos (⟨⟨s⟩⟩ : ByteArray) n.toNat hlt).trans (congrArg some hb')
     simp [Instr.index, asIntOf, run_und hu', h0, hg]
    ·cases h
   ·cases h
  ·rename_i p
   split at h
   ·rename_i len e hu
    have hu' := und_some hu (by simp)
    split at h
    ·rename_i hc
     obtain ⟨h0, h1, hs⟩ := hc
     simp only [VRel, V1Rel] at hv
     obtain ⟨cs, rfl, h2, h3⟩ := hv
     have go : ∀ d, C.P.underlying e = some d → ∀ u, (part e cs (n.toNat * sizeT C e)).run C.P K.w = .ok u K.w → (Instr.index t (.agg cs) (.int k n)).run C.P K.w = .ok u K.w := by
      intro d hd u hp
      simp [Instr.index, asIntOf, run_und hu', h0, h1, run_sizeOf hd, hp]
     split at h
     ·rename_i ha
      obtain ⟨d, hd⟩ := isAggT_some ha
      split at h
      ·rename_i es l
       simp only [Option.map_eq_some_iff] at h
       obtain ⟨q, hq, rfl⟩ := h
       simp only [PRel, GP] at h3
       obtain ⟨r, rfl, h4, h5⟩ := h3.2 _ _ hq
       simp only [pesz] at hs
       subst hs
       have hlt := (List.getElem?_eq_some_iff.1 hq).1
       have hle : (n.toNat + 1) * sizeT C e ≤ l.length * sizeT C e := Nat.mul_le_mul_right _ hlt
       rw [Nat.succ_mul] at hle
       simp only [cellsLen, plen, pesz] at h2
       refine ⟨_, go d hd _ (by simp [part, run_isAgg hd, ha, run_sizeOf hd]; rfl), ?_⟩
       simp only [VRel, V1Rel]
       refine ⟨_, rfl, by simp [cellsLen, plen, pesz]; omega, ?_⟩
       simp only [PRel, GP]
       intro j b hb
       obtain ⟨u, h6, h7⟩ := h5 j b hb
       refine ⟨u, ?_, h7⟩
       have hj := (List.getElem?_eq_some_iff.1 hb).1
       rw [← h6]
       simp [Array.getElem?_extract]
       omega
      ·cases h
     ·rename_i ha
      split at h
      ·rename_i hok
       obtain ⟨d, hd, _⟩ := okT_some hok
       obtain ⟨u, h4, _, h5⟩ := GP.get (SRel.int_self K T) h3 h
       refine ⟨u, go d hd u ?_, VRel.s h5⟩
       simp only [Nat.add_zero] at h4
       rw [hs] at h4
       simp [part, run_isAgg hd, ha, h4]
      ·cases h
    ·cases h
   ·cases h
  ·cases h
 ·cases h

theorem lenV_ok {C : Ctx} {K : Kx} {T : Nat → Nat → Prop} (hI : Inv C K T) {t ty : TypeId} {ts : Array TypeId} {x : AV} {v : Value} {vs : Array Value} {n : Int} (hv : VRel K T x v) (h : lenV C K.H t x = some n)
  (ht : ts[0]? = some t) (hvs : vs[0]? = some v) : (Builtin.len_ ts ty vs).run C.P K.w = .ok (.int .i64 n) K.w := by
 unfold lenV at h
 split at h
 ·rename_i s hu
  have hu' := und_some hu (by simp)
  have := hv.str
  subst this
  simp only [Option.some.injEq] at h; subst h
  simp [Builtin.len_, ht, hvs, run_und hu', goInt]
  rfl
 ·rename_i len e hu
  have hu' := und_some hu (by simp)
  simp only [Option.some.injEq] at h; subst h
  simp [Builtin.len_, ht, hvs, run_und hu', goInt]
 ·rename_i e c p tg hu
  have hu' := und_some hu (by simp)
  simp only [VRel, V1Rel, SRel, RV] at hv
  obtain ⟨ad, cap, rfl, _⟩ := hv
  simp only [Option.some.injEq] at h; subst h
  simp [Builtin.len_, ht, hvs, run_und hu', goInt]
 ·rename_i e o off len g hu
  have hu' := und_some hu (by simp)
  split at h
  ·rename_i ob hob
   simp only [VRel, V1Rel, SRel] at hv
   obtain ⟨h1, h2⟩ := live_iff.1 hob
   obtain ⟨_, ad, cap, rfl, _⟩ := (hv.2.2 ob h1).2 h2
   simp only [Option.some.injEq] at h; subst h
   simp [Builtin.len_, ht, hvs, run_und hu', goInt]
  ·cases h
 ·rename_i hu
  have hu' := und_some hu (by simp)
  have : v = .map none := by simpa [VRel, V1Rel, SRel, RV] using hv
  subst this
  simp only [Option.some.injEq] at h; subst h
  simp [Builtin.len_, ht, hvs, run_und hu', goInt]
 ·rename_i o g hu
  have hu' := und_some hu (by simp)
  split at h
  ·rename_i ob hob
   split at h
   ·rename_i l hl
    simp only [VRel, V1Rel, SRel] at hv
    obtain ⟨h1, h2⟩ := live_iff.1 hob
    obtain ⟨_, rfl⟩ := (hv.2.2 ob h1).2 h2
    simp only [Option.some.injEq] at h; subst h
    have hO := hI.obj o ob h1
    unfold ObjOk at hO
    rw [hl] at hO
    obtain ⟨es, clock, h3, h4, h5, _⟩ := hO
    simp [Builtin.len_, ht, hvs, run_und hu', goInt, getObj, Sem.run, h3, h4]
   ·cases h
  ·cases h
 ·cases h

theorem capV_ok {C : Ctx} {K : Kx} {T : Nat → Nat → Prop} (hI : Inv C K T) {t ty : TypeId} {ts : Array TypeId} {x : AV} {v : Value} {vs : Array Value} {n : Int} (hv : VRel K T x v) (h : capV C K.H t x = some n)
  (ht : ts[0]? = some t) (hvs : vs[0]? = some v) : (Builtin.cap_ ts ty vs).run C.P K.w = .ok (.int .i64 n) K.w := by
 unfold capV at h
 split at h
 ·rename_i e p tg hu
  have hu' := und_some hu (by simp)
  simp only [VRel, V1Rel, SRel, RV] at hv
  obtain ⟨ad, cap, rfl, hs, _⟩ := hv
  simp only [Option.some.injEq] at h; subst h
  have := (hs.2.1 rfl).2
  simp [Builtin.cap_, ht, hvs, run_und hu', goInt, this]
 ·rename_i e p tg hu
  have hu' := und_some hu (by simp)
  simp only [VRel, V1Rel, SRel, RV] at hv
  obtain ⟨ad, cap, rfl, hs, _⟩ := hv
  simp only [Option.some.injEq] at h; subst h
  have := hs.2.2.2 rfl
  simp [Builtin.cap_, ht, hvs, run_und hu', goInt, this]
 ·rename_i e o off len g hu
  have hu' := und_some hu (by simp)
  split at h
  ·rename_i ob hob
   split at h
   ·rename_i c hc
    simp only [VRel, V1Rel, SRel] at hv
    obtain ⟨h1, h2⟩ := live_iff.1 hob
    obtain ⟨hpm, ad, cap, rfl, h3, _⟩ := (hv.2.2 ob h1).2 h2
    obtain ⟨hsh, _⟩ := (hI.obj o ob h1).open hpm
    have := hsh.2.1 c hc
    simp only [Option.some.injEq] at h; subst h
    simp [Builtin.cap_, ht, hvs, run_und hu', goInt]
    omega
   ·cases h
  ·cases h
 ·cases h

/-- what a slice value reads as: its cells -/
theorem readSl_ok {C : Ctx} {K : Kx} {T : Nat → Nat → Prop} (hI : Inv C K T) {x p : AV} {v : Value} (hv : VRel K T x v) (h : readSl K.H x = some p) :
  ∃ ad cap, v = .slice ad (plen p) cap ∧ plen p ≤ cap ∧ (∀ e, pesz p = e → plen p ≠ 0 → ∃ b off, ad = some ⟨b, off, none⟩ ∧ ∃ S : AV → Value → Prop, GP S p (fun j => K.w.cell? ⟨b, off + j, none⟩)) := by
 unfold readSl at h
 split at h
 ·rename_i c q t
  simp only [Option.some.injEq] at h; subst h
  simp only [VRel, V1Rel, SRel, RV] at hv
  obtain ⟨ad, cap, rfl, hs, hr⟩ := hv
  refine ⟨ad, cap, rfl, hs.1, fun e _ hn => ?_⟩
  have had : ad.isSome = true := hs.2.2.1 (fun h0 => by have := (hs.2.1 h0).2; have := hs.1; omega)
  obtain ⟨⟨b, off, sp⟩, rfl⟩ := Option.isSome_iff_exists.1 had
  obtain ⟨h1, _, h2⟩ := hr _ rfl hn
  simp only at h1 h2
  subst h1
  exact ⟨b, off, rfl, _, RP_GP.1 h2⟩
 ·rename_i o off len g
  split at h
  ·rename_i ob hob
   simp only [VRel, V1Rel, SRel] at hv
   obtain ⟨h1, h2⟩ := live_iff.1 hob
   obtain ⟨hpm, ad, cap, rfl, h3, h4, h5, _⟩ := (hv.2.2 ob h1).2 h2
   obtain ⟨hsh, _⟩ := (hI.obj o ob h1).open hpm
   have hlen := psub_len h
   refine ⟨ad, cap, by rw [hlen], by rw [hlen]; have := hsh.1; omega, fun e _ hn => ?_⟩
   have hcap : cap ≠ 0 := by have := hsh.1; omega
   have hpl : plen ob.p ≠ 0 := by omega
   have hp := obj_pay hI hob hpm hpl
   have := h5 hcap
   refine ⟨_, _, this, ?_⟩
   have key : ∀ {S : AV → Value → Prop}, GP S ob.p (fun j => K.w.cell? ⟨(K.μ o).blk, (K.μ o).base + j, none⟩) → GP S p (fun j => K.w.cell? ⟨(K.μ o).blk, (K.μ o).base + off * pesz ob.p + j, none⟩) := by
    intro S hS
    have := (GP.sub hS h).1
    simp only [← Nat.add_assoc] at this
    exact this
   unfold PayOk at hp
   split at hp
   ·exact ⟨_, key hp⟩
   ·exact ⟨_, key (RP_GP.1 hp)⟩
  ·cases h
 ·cases h

theorem foldl_push : ∀ (l : List UInt8) (s : ByteArray), ((l.map fun b => (b.toNat : Int)).foldl (fun r n => r.push (UInt8.ofNat n.toNat)) s) = ⟨⟨s.data.toList ++ l⟩⟩
 | [], s => by simp
 | b :: l, s => by
  simp only [List.map_cons, List.foldl_cons]
  rw [foldl_push l]
  have : (s.push (UInt8.ofNat (b.toNat : Int).toNat)).data.toList = s.data.toList ++ [b] := by
   simp [ByteArray.push]
  rw [this]
  simp

theorem run_bytes {P : Program} {w : World} {l : List UInt8} {b off cap : Nat} (h : ∀ (j : Nat) (x : UInt8), l[j]? = some x → w.cell? ⟨b, off + j, none⟩ = some (.int .u8 x.toNat)) :
  (Conv.bytesToString (.slice (some ⟨b, off, none⟩) l.length cap)).run P w = .ok (.string ⟨⟨l⟩⟩) w := by
 have hl : (loadCells ⟨b, off, none⟩ l.length).run P w = .ok ((l.map fun x => (x.toNat : Int)).map (Value.int .u8)).toArray w := by
  have := run_loadCells_list (P := P) (w := w) ⟨b, off, none⟩ ((l.map fun x => (x.toNat : Int)).map (Value.int .u8)) (by
   intro j v hv
   simp only [List.getElem?_map, Option.map_eq_some_iff] at hv
   obtain ⟨n, ⟨x, hx, rfl⟩, rfl⟩ := hv
   rw [add_lit]
   exact h j x hx)
  simpa using this
 rw [run_bytesToString w ⟨b, off, none⟩ l.length cap (l.map fun x => (x.toNat : Int)) hl, foldl_push]
 simp

/-- a conversion: the heap is as it was; the world may have grown -/
theorem convV_ok {C : Ctx} {K : Kx} {T : Nat → Nat → Prop} (hI : Inv C K T) {s d : TypeId} {x y : AV} {v : Value} {H' : Heap} (hv : VRel K T x v) (h : convV C K.H s d x = some (y, H')) :
  ∃ u w', (convert s d v).run C.P K.w = .ok u w' ∧ H' = K.H ∧ Inv C ⟨K.μ, K.H, w'⟩ T ∧ Evo T K.H.length K ⟨K.μ, K.H, w'⟩ ∧ VRel ⟨K.μ, K.H, w'⟩ T y u := by
 unfold convV at h
 split at h
 ·cases h
 rename_i hok
 obtain ⟨ds, hds, _⟩ := okT_some (by simpa using hok)
 have same : ∀ {u : Value}, (convert s d v).run C.P K.w = .ok u K.w → H' = K.H → VRel K T y u →
   ∃ u w', (convert s d v).run C.P K.w = .ok u w' ∧ H' = K.H ∧ Inv C ⟨K.μ, K.H, w'⟩ T ∧ Evo T K.H.length K ⟨K.μ, K.H, w'⟩ ∧ VRel ⟨K.μ, K.H, w'⟩ T y u :=
  fun h1 h2 h3 => ⟨_, _, h1, h2, hI, Evo.refl T K (Nat.le_refl _), h3⟩
 split at h
 ·rename_i k k' n hu
  have hu' := und_some hu (by simp)
  simp only [Option.some.injEq, Prod.mk.injEq] at h
  obtain ⟨rfl, rfl⟩ := h
  have := hv.int
  subst this
  refine same (u := .int k (k.wrap n)) ?_ rfl (by simp [VRel, V1Rel, SRel, RV])
  simp [convert, run_und hds, run_und hu', Conv.intToInt]
 ·rename_i b hu
  have hu' := und_some hu (by simp)
  simp only [Option.some.injEq, Prod.mk.injEq] at h
  obtain ⟨rfl, rfl⟩ := h
  have := hv.str
  subst this
  refine same (u := .string ⟨⟨b⟩⟩) ?_ rfl (by simp [VRel, V1Rel, SRel, RV])
  simp only [convert, Sem.run_bind, run_und hds, run_und hu', Result.andThen_ok]
  cases ds <;> rfl
 ·rename_i x _ _ hu _
  have hu' := und_some hu (by simp)
  split at h
  ·rename_i e hus
   have hus' := und_some hus (by simp)
   split at h
   ·rename_i hu8
    have he := isU8_some hu8
    have go : ∀ {l : List UInt8}, readSl K.H x = some (.pb l) ∨ (readSl K.H x = some .pn ∧ l = []) → y = .str l → H' = K.H → 
     ∃ u w', (convert s d v).run C.P K.w = .ok u w' ∧ H' = K.H ∧ Inv C ⟨K.μ, K.H, w'⟩ T ∧ Evo T K.H.length K ⟨K.μ, K.H, w'⟩ ∧ VRel ⟨K.μ, K.H, w'⟩ T y u := by
     rintro l hl rfl rfl
     refine same (u := .string ⟨⟨l⟩⟩) ?_ rfl (by simp [VRel, V1Rel, SRel, RV])
     have key : ∃ ad cap, v = .slice ad l.length cap ∧ (l.length ≠ 0 → ∃ b off, ad = some ⟨b, off, none⟩ ∧ ∀ (j : Nat) (x : UInt8), l[j]? = some x → K.w.cell? ⟨b, off + j, none⟩ = some (.int .u8 x.toNat)) := by
      rcases hl with hl | ⟨hl, rfl⟩
      ·obtain ⟨ad, cap, h1, _, h2⟩ := readSl_ok hI hv hl
       refine ⟨ad, cap, h1, fun hn => ?_⟩
       obtain ⟨b, off, h3, S, h4⟩ := h2 1 rfl hn
       exact ⟨b, off, h3, h4⟩
      ·obtain ⟨ad, cap, h1, _, h2⟩ := readSl_ok hI hv hl
       exact ⟨ad, cap, h1, fun hn => absurd rfl hn⟩
     obtain ⟨ad, cap, rfl, h2⟩ := key
     rw [run_convert_bytes_string K.w s d e ad l.length cap hus' he hu']
     by_cases h0 : l.length = 0
     ·have : l = [] := List.eq_nil_of_length_eq_zero h0
      subst this
      cases ad with
      | none => rfl
      | some ad =>
       simp [Conv.bytesToString, loadCells, loadCellsFrom]
       rfl
     ·obtain ⟨b, off, rfl, h3⟩ := h2 h0
      exact run_bytes h3
    split at h
    ·rename_i l hl
     simp only [Option.some.injEq, Prod.mk.injEq] at h
     exact go (.inl hl) h.1.symm h.2.symm
    ·rename_i hl
     simp only [Option.some.injEq, Prod.mk.injEq] at h
     exact go (.inr ⟨hl, rfl⟩) h.1.symm h.2.symm
    ·cases h
   ·cases h
  ·cases h
 ·rename_i e b hu
  have hu' := und_some hu (by simp)
  split at h
  ·rename_i hu8
   have he := isU8_some hu8
   simp only [Option.some.injEq, Prod.mk.injEq] at h
   obtain ⟨rfl, rfl⟩ := h
   have := hv.str
   subst this
   let cap := (Question.appendCap b.length 0 e).cut (K.w.tape K.w.drawn (.appendCap b.length 0 e))
   let arr : Array Value := (b.map fun x => Value.int .u8 x.toNat).toArray ++ Array.replicate (cap - b.length) (.int .u8 0)
   let w1 : World := (K.w.drew.alloc (.cells arr e)).freeze ⟨K.w.heap.size, arr.size, none⟩ 1
   have hcap : b.length ≤ cap := by simp [cap, Question.cut]
   have hrun : (convert s d (.string ⟨⟨b⟩⟩)).run C.P K.w = .ok (.slice (some ⟨K.w.heap.size, 0, none⟩) b.length cap) w1 := by
    have hsz : (⟨⟨b⟩⟩ : ByteArray).size = b.length := rfl
    have hq : ∀ n, (Question.appendCap n 0 e).forced = false := fun n => rfl
    have harr : Array.map (fun b => Value.int .u8 b.toNat) (⟨⟨b⟩⟩ : ByteArray).data ++ Array.replicate (cap - b.length) (.int .u8 0) = arr := by simp [arr]
    have hshape : (K.w.drew.alloc (.cells arr e)).shape? K.w.heap.size = some (e, arr.size) := by
     unfold World.shape?
     rw [show K.w.heap.size = K.w.drew.heap.size from rfl, heap_alloc_new]
    have hc : (Conv.stringToBytes e ⟨⟨b⟩⟩).run C.P K.w = .ok (.slice (some ⟨K.w.heap.size, 0, none⟩) b.length cap) w1 := by
     simp only [Conv.stringToBytes, Sem.run_bind, run_choose, hsz, hq, Bool.false_eq_true, if_false, Result.andThen_ok, newRow, run_newObj, Sem.run_pure, markStringish, run_shape]
     rw [show (Question.appendCap b.length 0 e).cut (K.w.tape K.w.drawn (.appendCap b.length 0 e)) = cap from rfl, harr]
     have e1 : ({ heap := K.w.heap.push (.cells arr e), tape := K.w.tape, drawn := K.w.drawn + 1, os := K.w.os, output := K.w.output } : World) = K.w.drew.alloc (.cells arr e) := rfl
     rw [e1, hshape]
     simp only [Sem.run_bind, run_freeze, Result.andThen_ok, Sem.run_pure]
     rfl
    simp only [convert, Sem.run_bind, run_und hds, run_und hu', Result.andThen_ok]
    cases ds <;> simp only [Sem.run_bind, run_und he, Result.andThen_ok, hc]
   have hheap : ∀ k, k ≠ K.w.heap.size → w1.heap[k]? = (K.w.drew.alloc (.cells arr e)).heap[k]? := by
    intro k hk
    simp only [w1, World.freeze]
    rw [if_neg (by decide)]
    simp only [Array.getElem?_modify]
    rw [if_neg (Ne.symm hk)]
   have hsize : w1.heap.size = K.w.heap.size + 1 := by
    simp only [w1, World.freeze]
    rw [if_neg (by decide)]
    simp
   have hcell : ∀ j, w1.cell? ⟨K.w.heap.size, j, none⟩ = arr[j]? := by
    intro j
    simp only [w1, World.freeze]
    rw [if_neg (by decide)]
    simp only [World.cell?, Array.getElem?_modify, if_true]
    rw [show K.w.heap.size = K.w.drew.heap.size from rfl, heap_alloc_new]
    simp
   have hos : w1.os = K.w.os ∧ w1.tape = K.w.tape ∧ w1.output = K.w.output := by
    simp only [w1, World.freeze]
    rw [if_neg (by decide)]
    exact ⟨rfl, rfl, rfl⟩
   obtain ⟨hI', hE⟩ := Inv.world (w' := w1) hI (by omega) hos.1 hos.2.1 hos.2.2 (fun k hk => .inl (by rw [hheap k (by omega)]; exact heap_alloc_old K.w.drew _ hk))
   refine ⟨_, w1, hrun, rfl, hI', hE, ?_⟩
   simp only [VRel, V1Rel, SRel, RV, plen]
   refine ⟨_, cap, rfl, ⟨hcap, by simp, by simp, by simp⟩, fun a ha hn => ?_⟩
   simp only [Option.some.injEq] at ha
   subst ha
   refine ⟨rfl, ⟨hI.new _ (Nat.le_refl _), fun ho => ?_, by simp only [hsize]; omega⟩, ?_⟩
   ·have := (hI.own _ (hE.own _ ?_ ho)).1
    ·simp at this
    ·obtain ⟨o, ob, h1, h2, h3⟩ := ho
     exact absurd (hI.own _ ⟨o, ob, h1, h2, h3⟩).1 (by simp)
   ·simp only [RP]
    intro j x hx
    rw [Nat.zero_add, hcell]
    have hj := (List.getElem?_eq_some_iff.1 hx).1
    simp only [arr]
    rw [Array.getElem?_append_left (by simpa using hj)]
    simp [hx]
  ·cases h
 ·rename_i e p hu
  have hu' := und_some hu (by simp)
  split at h
  ·rename_i hc
   obtain ⟨rfl, hu8, hn⟩ := hc
   have he := isU8_some hu8
   simp only [Option.some.injEq, Prod.mk.injEq] at h
   obtain ⟨rfl, rfl⟩ := h
   have hv0 := hv
   simp only [VRel, V1Rel, SRel, RV] at hv
   obtain ⟨ad, cap, rfl, hs, hr⟩ := hv
   obtain ⟨⟨b, off, sp⟩, rfl⟩ := Option.isSome_iff_exists.1 (hs.2.2.1 (by decide))
   obtain ⟨h1, h2, h3⟩ := hr _ rfl hn
   simp only at h1 h2 h3
   subst h1
   have hmark : ∃ w1, (markStringish ⟨b, off, none⟩).run C.P K.w = .ok () w1 ∧ w1.heap.size = K.w.heap.size ∧ w1.os = K.w.os ∧ w1.tape = K.w.tape ∧ w1.output = K.w.output ∧
     (∀ k, k ≠ b → w1.heap[k]? = K.w.heap[k]?) ∧ ∀ j, w1.cell? ⟨b, j, none⟩ = K.w.cell? ⟨b, j, none⟩ := by
    unfold markStringish
    simp only [Sem.run_bind, run_shape, Result.andThen_ok]
    cases hsh : K.w.shape? b with
    | none => exact ⟨K.w, by simp, rfl, rfl, rfl, rfl, fun _ _ => rfl, fun _ => rfl⟩
    | some x =>
     obtain ⟨ty, n⟩ := x
     refine ⟨K.w.freeze ⟨b, n, none⟩ 1, by simp, ?_⟩
     simp only [World.freeze]
     rw [if_neg (by decide)]
     refine ⟨by simp, rfl, rfl, rfl, fun k hk => ?_, fun j => ?_⟩
     ·simp only [Array.getElem?_modify]; rw [if_neg (Ne.symm hk)]
     ·simp only [World.cell?, Array.getElem?_modify, if_true]
      cases K.w.heap[b]? with
      | none => rfl
      | some o => cases o <;> rfl
   obtain ⟨w1, hm1, hm2, hm3, hm4, hm5, hm6, hm7⟩ := hmark
   obtain ⟨hI', hE⟩ := Inv.world (w' := w1) hI (by omega) hm3 hm4 hm5 (fun k hk => by
    by_cases e' : k = b
    ·subst e'; exact .inr ⟨h2.2.1, h2.1, hm7⟩
    ·exact .inl (hm6 k e'))
   refine ⟨_, w1, ?_, rfl, hI', hE, VRel.evo hE (Nat.le_refl _) hv0⟩
   simp [convert, run_und hu', run_und he, hm1]
  ·cases h
 ·cases h

end Go.AM

/- New objects. -/
namespace Go.AM

theorem alloc_new (w : World) (o : Go.Obj) : (w.alloc o).heap[w.heap.size]? = some o := Go.heap_alloc_new w o
theorem alloc_old (w : World) (o : Go.Obj) {b : Nat} (h : b < w.heap.size) : (w.alloc o).heap[b]? = w.heap[b]? := Go.heap_alloc_old w o h

theorem PRel.pos {K : Kx} {T : Nat → Nat → Prop} {p : AV} {r : Nat → Option Value} (h : PRel K T p r) : 0 < pesz p ∧ isPm p = false := by
 cases p <;> simp_all [PRel, GP, pesz, isPm]

theorem newBox_ok {C : Ctx} {K : Kx} {T : Nat → Nat → Prop} (hI : Inv C K T) {p : AV} {cs : Array Value} (hp : PRel K T p (fun j => cs[j]?)) (hs : cs.size = cellsLen p) (E : TypeId) :
  ∃ μ', Inv C ⟨μ', (newBox K.H p).2, K.w.alloc (.cells cs E)⟩ T ∧ Evo T K.H.length K ⟨μ', (newBox K.H p).2, K.w.alloc (.cells cs E)⟩ ∧
   VRel ⟨μ', (newBox K.H p).2, K.w.alloc (.cells cs E)⟩ T (newBox K.H p).1 (.pointer (some ⟨K.w.heap.size, 0, none⟩)) := by
 obtain ⟨hpos, hpm⟩ := hp.pos
 obtain ⟨μ', h1, h2, h3⟩ := Inv.push (w' := K.w.alloc (.cells cs E)) hI ⟨p, 0, some (plen p), 1, false, hasIdsP p, 0⟩ ⟨K.w.heap.size, 0, plen p⟩ (by simp) rfl rfl rfl (fun b hb => alloc_old _ _ hb)
  (fun _ => ⟨Nat.le_refl _, by simp⟩) (by
   intro μ' hold hm hE
   have hsh : ShapeOk (μ' K.H.length) ⟨p, 0, some (plen p), 1, false, hasIdsP p, 0⟩ := by
    rw [hm]
    exact ⟨Nat.le_refl _, fun c hc => by simpa using hc.symm, fun _ => rfl, fun h => by simp at h⟩
   have hcl : CellsOk ⟨μ', K.H ++ [some ⟨p, 0, some (plen p), 1, false, hasIdsP p, 0⟩], K.w.alloc (.cells cs E)⟩ T (μ' K.H.length) ⟨p, 0, some (plen p), 1, false, hasIdsP p, 0⟩ := by
    rw [hm]
    intro hc
    refine ⟨cs, E, alloc_new _ _, by simp [hs, cellsLen], hpos, ?_⟩
    unfold PayOk
    simp only [Nat.zero_add]
    split
    ·exact PRel.imp (fun _ _ => SRel.evo hE (Nat.le_refl _)) hp
    ·rename_i hid
     cases p <;> simp_all [hasIdsP, PRel, GP, RP]
   unfold ObjOk
   split
   ·rename_i heq; simp only at heq; rw [heq] at hpm; simp [isPm] at hpm
   ·exact ⟨hsh, hcl⟩)
 refine ⟨μ', h2, h3, ?_⟩
 simp only [newBox, VRel, V1Rel, SRel]
 refine ⟨by simp, rfl, fun ob hob => ?_⟩
 have : ob = ⟨p, 0, some (plen p), 1, false, hasIdsP p, 0⟩ := by simpa using hob.symm
 subst this
 refine ⟨Nat.le_refl _, fun _ => ⟨hpm, ?_⟩⟩
 rw [h1]
 simp

theorem boxOf_ok {K : Kx} {T : Nat → Nat → Prop} {x p : AV} {v : Value} (hv : VRel K T x v) (h : boxOf x = some p) : PRel K T p (fun j => v.cells[j]?) ∧ v.cells.size = cellsLen p := by
 unfold boxOf at h
 split at h
 ·simp only [Option.some.injEq] at h
  subst h
  simp only [VRel, V1Rel] at hv
  obtain ⟨cs, rfl, h1, h2⟩ := hv
  exact ⟨h2, h1⟩
 ·split at h
  ·rename_i hs
   simp only [Option.some.injEq] at h
   subst h
   have h1 := SRel.of_v hs hv
   have h2 := SRel.cell hs h1
   have h3 : v.cells = #[v] := by cases v <;> first | rfl | (simp [Value.oneCell'] at h2)
   rw [h3]
   refine ⟨?_, rfl⟩
   simp only [PRel, GP]
   intro j a ha
   cases j with
   | zero => simp at ha; subst ha; exact ⟨v, rfl, h2, h1⟩
   | succ j => simp at ha
  ·cases h

theorem run_newVar {P : Program} {w : World} (t : TypeId) (v : Value) : (newVar t v).run P w = .ok ⟨w.heap.size, 0, none⟩ (w.alloc (.cells v.cells t)) := by
 simp [newVar, newRow]

theorem zero_ok {C : Ctx} {K : Kx} {T : Nat → Nat → Prop} {t : TypeId} {p : AV} (h : zeroAV C t = p) (hp : p ≠ .top) : ∃ z, (zeroValue t).run C.P K.w = .ok z K.w ∧ VRel K T p z ∧ (∃ i, C.P.info? t = some i ∧ i.zero = some z) := by
 unfold zeroAV at h
 split at h
 ·rename_i z hz
  subst h
  cases hi : C.P.info? t with
  | none => rw [hi] at hz; simp at hz
  | some i =>
   rw [hi] at hz
   simp at hz
   exact ⟨z, by simp [zeroValue, typeInfo, hi, hz], ofVal_v t z, i, rfl, hz⟩
 ·exact absurd h.symm hp

theorem allocOp_ok {C : Ctx} {K : Kx} {T : Nat → Nat → Prop} (hI : Inv C K T) {t : TypeId} {p : AV} (h : boxOf (zeroAV C t) = some p) :
  ∃ u w' μ', (Instr.alloc t true (.tuple #[])).run C.P K.w = .ok u w' ∧ Inv C ⟨μ', (newBox K.H p).2, w'⟩ T ∧ Evo T K.H.length K ⟨μ', (newBox K.H p).2, w'⟩ ∧ VRel ⟨μ', (newBox K.H p).2, w'⟩ T (newBox K.H p).1 u := by
 have hne : zeroAV C t ≠ .top := by intro h0; rw [h0] at h; simp [boxOf, scalar] at h
 obtain ⟨z, h1, h2, _⟩ := zero_ok (K := K) (T := T) rfl hne
 obtain ⟨h3, h4⟩ := boxOf_ok h2 h
 obtain ⟨μ', h5, h6, h7⟩ := newBox_ok hI h3 h4 t
 exact ⟨_, _, μ', by simp [Instr.alloc, h1, run_newVar], h5, h6, h7⟩

theorem boxOp_ok {C : Ctx} {K : Kx} {T : Nat → Nat → Prop} (hI : Inv C K T) {t : TypeId} {x p : AV} {v : Value} (hv : VRel K T x v) (h : boxOf x = some p) :
  ∃ u w' μ', (Instr.box t v).run C.P K.w = .ok u w' ∧ Inv C ⟨μ', (newBox K.H p).2, w'⟩ T ∧ Evo T K.H.length K ⟨μ', (newBox K.H p).2, w'⟩ ∧ VRel ⟨μ', (newBox K.H p).2, w'⟩ T (newBox K.H p).1 u := by
 obtain ⟨h3, h4⟩ := boxOf_ok hv h
 obtain ⟨μ', h5, h6, h7⟩ := newBox_ok hI h3 h4 t
 exact ⟨_, _, μ', by simp [Instr.box, run_newVar], h5, h6, h7⟩

/-- a row in a new block -/
theorem pushRow {C : Ctx} {K : Kx} {T : Nat → Nat → Prop} (hI : Inv C K T) (ob : Obj) {w' : World} {cs : Array Value} {E : TypeId} {cap : Nat} (hrow : ob.row = true) (hg : ob.g = 0)
  (hz : ob.z = 0 → plen ob.p ≠ 0) (hpm : isPm ob.p = false)
  (hw : w'.heap.size = K.w.heap.size + 1) (hos : w'.os = K.w.os) (htape : w'.tape = K.w.tape) (hout : w'.output = K.w.output)
  (hnew : w'.heap[K.w.heap.size]? = some (.cells cs E (0, 0))) (hold : ∀ b, b < K.w.heap.size → w'.heap[b]? = K.w.heap[b]?)
  (hcap : plen ob.p ≤ cap) (hsz : cap * pesz ob.p ≤ cs.size) (hpos : 0 < pesz ob.p) (hoc : ∀ c, ob.cap = some c → c = cap) (hpay : PayOk K T ob (fun j => cs[j]?)) :
  ∃ μ', Inv C ⟨μ', K.H ++ [some ob], w'⟩ T ∧ Evo T K.H.length K ⟨μ', K.H ++ [some ob], w'⟩ ∧
   VRel ⟨μ', K.H ++ [some ob], w'⟩ T (.sl K.H.length 0 (plen ob.p) 0) (.slice (some ⟨K.w.heap.size, 0, none⟩) (plen ob.p) cap) := by
 obtain ⟨μ', h1, h2, h3⟩ := Inv.push (w' := w') hI ob ⟨K.w.heap.size, 0, cap⟩ (by omega) hos htape hout hold
  (fun _ => ⟨Nat.le_refl _, by simp only [hw]; omega⟩) (by
   intro μ' hold hm hE
   unfold ObjOk
   split
   ·rename_i heq; rw [heq] at hpm; simp [isPm] at hpm
   ·refine ⟨?_, ?_⟩
    ·simp only [hm]
     exact ⟨hcap, hoc, fun h => by simp [hrow] at h, fun h => .inr (hz h)⟩
    ·simp only [hm]
     intro hc
     refine ⟨cs, E, hnew, by simpa using hsz, hpos, ?_⟩
     simp only [Nat.zero_add]
     exact PayOk.evo hE (Nat.le_refl _) hpay)
 refine ⟨μ', h2, h3, ?_⟩
 simp only [VRel, V1Rel, SRel]
 refine ⟨by simp, rfl, fun ob' hob => ?_⟩
 have : ob' = ob := by simpa using hob.symm
 subst this
 refine ⟨by omega, fun _ => ⟨hpm, _, _, rfl, by rw [h1]; simp, by omega, fun _ => by rw [h1]; simp, fun h hz0 => ?_, fun _ => rfl⟩⟩
 rw [h1] at h
 simp only at h
 have := hz hz0
 omega

/-- an object with no room -/
theorem pushNone {C : Ctx} {K : Kx} {T : Nat → Nat → Prop} (hI : Inv C K T) (ob : Obj) (hrow : ob.row = true) (hg : ob.g = 0) (hpm : isPm ob.p = false) (hl : plen ob.p = 0) (hoc : ob.cap = none)
  {ad : Option Addr} (h0 : ob.z = 0 → ad = none) (h1 : ob.z ≠ 0 → ad.isSome = true) :
  ∃ μ', Inv C ⟨μ', K.H ++ [some ob], K.w⟩ T ∧ Evo T K.H.length K ⟨μ', K.H ++ [some ob], K.w⟩ ∧
   VRel ⟨μ', K.H ++ [some ob], K.w⟩ T (.sl K.H.length 0 0 0) (.slice ad 0 0) := by
 obtain ⟨μ', h3, h4, h5⟩ := Inv.push (w' := K.w) hI ob ⟨0, 0, 0⟩ (Nat.le_refl _) rfl rfl rfl (fun _ _ => rfl)
  (fun h => by rcases h with h | h <;> simp_all) (by
   intro μ' hold hm hE
   unfold ObjOk
   split
   ·rename_i heq; rw [heq] at hpm; simp [isPm] at hpm
   ·simp only [hm]
    exact ⟨⟨by omega, fun c hc => by simp [hoc] at hc, fun h => by simp [hrow] at h, fun _ => .inl rfl⟩, fun h => absurd rfl h⟩)
 refine ⟨μ', h4, h5, ?_⟩
 simp only [VRel, V1Rel, SRel]
 refine ⟨by simp, rfl, fun ob' hob => ?_⟩
 have : ob' = ob := by simpa using hob.symm
 subst this
 exact ⟨by omega, fun _ => ⟨hpm, ad, 0, rfl, by rw [h3], by omega, fun h => absurd rfl h, fun _ hz => h0 hz, fun h => by
  rcases h with h | h
  ·rw [h3] at h; exact absurd rfl h
  ·exact h1 h⟩⟩

theorem assignV_ok {C : Ctx} {K : Kx} {T : Nat → Nat → Prop} (hI : Inv C K T) {t : TypeId} {x : AV} {v : Value} (hv : VRel K T x v) :
  ∃ μ', Inv C ⟨μ', (assignV C K.H t x).2, K.w⟩ T ∧ Evo T K.H.length K ⟨μ', (assignV C K.H t x).2, K.w⟩ ∧ VRel ⟨μ', (assignV C K.H t x).2, K.w⟩ T (assignV C K.H t x).1 v := by
 unfold assignV
 split
 ·rename_i e _
  simp only [VRel, V1Rel, SRel, RV, plen] at hv
  obtain ⟨ad, cap, rfl, hs, _⟩ := hv
  obtain ⟨rfl, rfl⟩ := hs.2.1 rfl
  have h1 : isPm (emptyRow C e) = false ∧ plen (emptyRow C e) = 0 := by
   unfold emptyRow; split <;> exact ⟨rfl, rfl⟩
  exact pushNone hI (rowOf (emptyRow C e) none 0) rfl rfl h1.1 h1.2 rfl (fun _ => rfl) (fun h => absurd rfl h)
 ·exact ⟨K.μ, hI, Evo.refl T K (Nat.le_refl _), hv⟩

end Go.AM

/- Objects that turn: frozen, stored into. -/
namespace Go.AM

theorem upd_get {H : Heap} {o j : Nat} {x : Option Obj} {ob : Obj} (h : (upd H o x)[j]? = some (some ob)) : (j = o ∧ x = some ob) ∨ (j ≠ o ∧ H[j]? = some (some ob)) := by
 unfold upd at h
 rcases get_set h with ⟨e, h1, _⟩ | ⟨e, h1⟩
 ·exact .inl ⟨e.symm, h1.symm⟩
 ·exact .inr ⟨Ne.symm e, h1⟩

theorem upd_len (H : Heap) (o : Nat) (x : Option Obj) : (upd H o x).length = H.length := by simp [upd]

theorem Inv.drop {C : Ctx} {K : Kx} {T : Nat → Nat → Prop} (hI : Inv C K T) (o : Nat) : Inv C ⟨K.μ, upd K.H o none, K.w⟩ T ∧ Evo T K.H.length K ⟨K.μ, upd K.H o none, K.w⟩ := by
 have hn : ∀ ob, (upd K.H o none)[o]? ≠ some (some ob) := by
  intro ob h
  rcases upd_get h with ⟨_, h⟩ | ⟨h, _⟩
  ·cases h
  ·exact h rfl
 refine Inv.turn hI o (by simp [upd_len]) (fun j hj ob h => ?_) (Nat.le_refl _) rfl rfl rfl (fun _ _ _ => .inl rfl) (fun ob h => absurd h (hn ob)) (fun _ ob h => absurd h (hn ob)) (fun _ ob h => absurd h (hn ob))
 rcases upd_get h with ⟨e, _⟩ | ⟨_, h⟩
 ·exact absurd e hj
 ·exact ⟨h, rfl⟩

theorem live_lt {H : Heap} {o g : Nat} {ob : Obj} (h : live H o g = some ob) : o < H.length := (List.getElem?_eq_some_iff.1 (live_iff.1 h).1).1

/-- a handle's rows, of an object without ids -/
theorem SlOk.ro {C : Ctx} {K : Kx} {T : Nat → Nat → Prop} (hI : Inv C K T) {o off len g : Nat} {ob : Obj} {v : Value} {p : AV} (hob : live K.H o g = some ob) (hids : ¬ ob.ids = true)
  (hs : SlOk (K.μ o) ob off len v) (hp : psub ob.p off len = some p) :
  ∃ ad cap, v = .slice ad (plen p) cap ∧ RoShape (if ob.z = 0 ∧ plen ob.p = 0 then 0 else 2) (plen p) ad cap ∧
   ∀ a, ad = some a → plen p ≠ 0 → a.spot = none ∧ a.block = (K.μ o).blk ∧ Real ob (K.μ o) ∧ RP K.w (NT K T ob.tg) p (fun j => K.w.cell? ⟨a.block, a.off + j, none⟩) := by
 obtain ⟨hpm, ad, cap, rfl, h1, h2, h3, h4, h5⟩ := hs
 obtain ⟨h6, h7⟩ := live_iff.1 hob
 obtain ⟨hsh, hcl⟩ := (hI.obj o ob h6).open hpm
 have hlen := psub_len hp
 refine ⟨ad, cap, by rw [hlen], ⟨by rw [hlen]; have := hsh.1; omega, fun hc => ?_, fun hc => ?_, fun hc => ?_⟩, fun a ha hn => ?_⟩
 ·have hz : ob.z = 0 ∧ plen ob.p = 0 := by
   split at hc
   ·assumption
   ·cases hc
  have hC : (K.μ o).cap = 0 := by
   rcases hsh.2.2.2 hz.1 with h | h
   ·exact h
   ·exact absurd hz.2 h
  exact ⟨h4 hC hz.1, by omega⟩
 ·have hz : ¬ (ob.z = 0 ∧ plen ob.p = 0) := by
   intro h; rw [if_pos h] at hc; exact hc rfl
  by_cases hz0 : ob.z = 0
  ·have : plen ob.p ≠ 0 := fun h => hz ⟨hz0, h⟩
   exact h5 (.inl (by have := hsh.1; omega))
  ·exact h5 (.inr hz0)
 ·split at hc <;> cases hc
 ·have hcap : cap ≠ 0 := by have := hsh.1; omega
  have := h3 hcap
  rw [this] at ha
  simp only [Option.some.injEq] at ha
  subst ha
  have hpl : plen ob.p ≠ 0 := by omega
  have hpay := obj_pay hI hob hpm hpl
  unfold PayOk at hpay
  rw [if_neg hids] at hpay
  refine ⟨rfl, rfl, .inr (by omega), RP_GP.2 ?_⟩
  have := (GP.sub (RP_GP.1 hpay) hp).1
  simp only [← Nat.add_assoc] at this
  exact this

theorem freezeV_ok {C : Ctx} {K : Kx} {T : Nat → Nat → Prop} (hI : Inv C K T) {x y : AV} {v : Value} {H' : Heap} (hv : SRel K T x v) (h : freezeV K.H x = some (y, H')) :
  Inv C ⟨K.μ, H', K.w⟩ T ∧ Evo T K.H.length K ⟨K.μ, H', K.w⟩ ∧ H'.length = K.H.length ∧ SRel ⟨K.μ, H', K.w⟩ T y v := by
 unfold freezeV at h
 split at h
 ·rename_i o off len g
  split at h
  ·rename_i ob hob
   split at h
   ·cases h
   ·rename_i hids
    split at h
    ·rename_i p hp
     simp only [Option.some.injEq, Prod.mk.injEq] at h
     obtain ⟨rfl, rfl⟩ := h
     obtain ⟨hI', hE⟩ := Inv.drop hI o
     refine ⟨hI', hE, upd_len _ _ _, ?_⟩
     simp only [SRel] at hv
     obtain ⟨h1, h2⟩ := live_iff.1 hob
     obtain ⟨ad, cap, rfl, h3, h4⟩ := SlOk.ro hI hob hids ((hv.2.2 ob h1).2 h2) hp
     simp only [SRel, RV]
     refine ⟨ad, cap, rfl, h3, fun a ha hn => ?_⟩
     obtain ⟨h5, h6, h7, h8⟩ := h4 a ha hn
     have hO : Own K a.block := ⟨o, ob, h1, h7, h6.symm⟩
     obtain ⟨h9, h10⟩ := hI.own _ hO
     refine ⟨h5, ⟨hI.mono _ _ h10, ?_, h9⟩, ?_⟩
     ·rintro ⟨j, ob', hj, hr, hb⟩
      rcases upd_get hj with ⟨_, e⟩ | ⟨hne, hj⟩
      ·cases e
      ·exact hne (hI.inj j o ob' ob hj h1 hr h7 (hb.trans h6))
     ·exact RP_mono (fun b hb => NT.evo hE hb) _ _ _ (fun _ _ h => h) h8
    ·cases h
  ·cases h
 ·simp only [Option.some.injEq, Prod.mk.injEq] at h
  obtain ⟨rfl, rfl⟩ := h
  exact ⟨hI, Evo.refl T K (Nat.le_refl _), rfl, hv⟩

theorem freezeV_shape {H H' : Heap} {x y : AV} (h : freezeV H x = some (y, H')) : (∃ o off len g c p t, x = .sl o off len g ∧ y = .ro c p t) ∨ (y = x ∧ H' = H) := by
 unfold freezeV at h
 split at h
 ·split at h
  ·split at h
   ·cases h
   ·split at h
    ·simp only [Option.some.injEq, Prod.mk.injEq] at h
     obtain ⟨rfl, _⟩ := h
     exact .inl ⟨_, _, _, _, _, _, _, rfl, rfl⟩
    ·cases h
  ·cases h
 ·simp only [Option.some.injEq, Prod.mk.injEq] at h
  exact .inr ⟨h.1.symm, h.2.symm⟩

theorem freezeL_ok {C : Ctx} {T : Nat → Nat → Prop} : ∀ {l l' : List AV} {K : Kx} {H' : Heap} {r : Nat → Value}, Inv C K T → (∀ (j : Nat) (a : AV), l[j]? = some a → SRel K T a (r j)) → freezeL K.H l = some (l', H') →
  Inv C ⟨K.μ, H', K.w⟩ T ∧ Evo T K.H.length K ⟨K.μ, H', K.w⟩ ∧ H'.length = K.H.length ∧ l'.length = l.length ∧ ∀ (j : Nat) (a : AV), l'[j]? = some a → SRel ⟨K.μ, H', K.w⟩ T a (r j)
 | [], l', K, H', r, hI, hr, h => by
  simp only [freezeL, Option.some.injEq, Prod.mk.injEq] at h
  obtain ⟨rfl, rfl⟩ := h
  exact ⟨hI, Evo.refl T K (Nat.le_refl _), rfl, rfl, by simp⟩
 | a :: t, l', K, H', r, hI, hr, h => by
  simp only [freezeL] at h
  split at h
  ·rename_i a' H1 h1
   obtain ⟨i1, e1, n1, s1⟩ := freezeV_ok hI (hr 0 a rfl) h1
   split at h
   ·rename_i t' H2 h2
    simp only [Option.some.injEq, Prod.mk.injEq] at h
    obtain ⟨rfl, rfl⟩ := h
    have := freezeL_ok (K := ⟨K.μ, H1, K.w⟩) (r := fun j => r (j + 1)) i1 (fun j b hb => SRel.evo e1 (Nat.le_refl _) (hr (j + 1) b (by simpa using hb))) h2
    obtain ⟨i2, e2, n2, m2, s2⟩ := this
    refine ⟨i2, Evo.trans e1 e2 (by show K.H.length ≤ H1.length; omega), n2.trans n1, by simp [m2], fun j b hb => ?_⟩
    cases j with
    | zero => simp at hb; subst hb; exact SRel.evo e2 (Nat.le_refl _) s1
    | succ j => exact s2 j b (by simpa using hb)
   ·cases h
  ·cases h

theorem freezeP_ok {C : Ctx} {K : Kx} {T : Nat → Nat → Prop} (hI : Inv C K T) {x y : AV} {v : Value} {H' : Heap} (hv : V1Rel K T x v) (h : freezeP K.H x = some (y, H')) :
  Inv C ⟨K.μ, H', K.w⟩ T ∧ Evo T K.H.length K ⟨K.μ, H', K.w⟩ ∧ H'.length = K.H.length ∧ V1Rel ⟨K.μ, H', K.w⟩ T y v := by
 unfold freezeP at h
 split at h
 ·rename_i l
  split at h
  ·rename_i l' H1 h1
   simp only [Option.some.injEq, Prod.mk.injEq] at h
   obtain ⟨rfl, rfl⟩ := h
   simp only [V1Rel] at hv ⊢
   obtain ⟨cs, rfl, h2, h3⟩ := hv
   simp only [PRel, GP] at h3
   obtain ⟨i1, e1, n1, m1, s1⟩ := freezeL_ok (r := fun j => cs.getD j undef) hI (fun j a ha => by
    obtain ⟨v, h4, _, h5⟩ := h3 j a ha
    simp only [Array.getD_eq_getD_getElem?, h4]
    exact h5) h1
   refine ⟨i1, e1, n1, cs, rfl, by simpa [cellsLen, plen, pesz, m1] using h2, ?_⟩
   simp only [PRel, GP]
   intro j a ha
   have hj := (List.getElem?_eq_some_iff.1 ha).1
   have hj' : j < l.length := by omega
   obtain ⟨v, h4, h5, _⟩ := h3 j l[j] (List.getElem?_eq_getElem hj')
   have := s1 j a ha
   simp only [Array.getD_eq_getD_getElem?, h4] at this
   exact ⟨v, h4, h5, this⟩
  ·cases h
 ·rcases freezeV_shape h with ⟨o, off, len, g, c, p, t, rfl, rfl⟩ | ⟨rfl, rfl⟩
  ·simp only [V1Rel] at hv ⊢
   exact freezeV_ok hI hv h
  ·exact ⟨hI, Evo.refl T K (Nat.le_refl _), rfl, hv⟩

end Go.AM

/- Stores. -/
namespace Go.AM

theorem splice_get {l c : List AV} {i j : Nat} (h : i + c.length ≤ l.length) : (splice l i c)[j]? = if i ≤ j ∧ j < i + c.length then c[j - i]? else l[j]? := by
 unfold splice
 have h1 : (l.take i).length = i := by simp; omega
 by_cases hj : j < i
 ·rw [if_neg (by omega), List.append_assoc, List.getElem?_append_left (by omega), List.getElem?_take, if_pos hj]
 ·rw [List.append_assoc, List.getElem?_append_right (by omega), h1]
  by_cases hj2 : j < i + c.length
  ·rw [if_pos (by omega), List.getElem?_append_left (by omega)]
  ·rw [if_neg (by omega), List.getElem?_append_right (by omega), List.getElem?_drop]
   congr 1; omega

theorem splice_len {l c : List AV} {i : Nat} (h : i + c.length ≤ l.length) : (splice l i c).length = l.length := by
 unfold splice; simp; omega

section
variable {S : AV → Value → Prop}

theorem flat_rel (hS : ∀ k n, S (.int k n) (.int k n)) {q : AV} {c : List AV} {r : Nat → Option Value} (h : GP S q r) (hc : flatCells q = some c) :
  c.length = cellsLen q ∧ ∀ (j : Nat) (a : AV), c[j]? = some a → ∃ v, r j = some v ∧ v.oneCell' = true ∧ S a v := by
 cases q <;> simp only [flatCells, Option.some.injEq, reduceCtorEq] at hc <;> subst hc <;> simp only [GP] at h
 case pb l =>
  refine ⟨by simp [cellsLen, plen, pesz], fun j a ha => ?_⟩
  simp only [List.getElem?_map, Option.map_eq_some_iff] at ha
  obtain ⟨b, hb, rfl⟩ := ha
  exact ⟨_, h j b hb, rfl, hS _ _⟩
 case pi k l =>
  refine ⟨by simp [cellsLen, plen, pesz], fun j a ha => ?_⟩
  simp only [List.getElem?_map, Option.map_eq_some_iff] at ha
  obtain ⟨b, hb, rfl⟩ := ha
  exact ⟨_, h j b hb, rfl, hS _ _⟩
 case pc l => exact ⟨by simp [cellsLen, plen, pesz], h⟩

/-- the reading with a row of cells laid over it from k on -/
def over (r : Nat → Option Value) (k : Nat) (vs : List Value) : Nat → Option Value := fun j => if k ≤ j ∧ j < k + vs.length then vs[j - k]? else r j

theorem psetA_rel (hS : ∀ k n, S (.int k n) (.int k n)) {p q p' : AV} {i f : Nat} {r : Nat → Option Value} {vs : List Value} (hp : GP S p r) (hq : GP S q (fun j => vs[j]?)) (hl : vs.length = cellsLen q)
  (h : psetA p i f q = some p') :
  GP S p' (over r (i * pesz p + f) vs) ∧ plen p' = plen p ∧ pesz p' = pesz p ∧ i * pesz p + f + vs.length ≤ plen p * pesz p := by
 have whole : ∀ {q : AV}, GP S q (fun j => vs[j]?) → vs.length = cellsLen q → i = 0 → f = 0 → plen q = plen p → pesz q = pesz p →
   GP S q (over r (i * pesz p + f) vs) ∧ plen q = plen p ∧ pesz q = pesz p ∧ i * pesz p + f + vs.length ≤ plen p * pesz p := by
  rintro q hq hl rfl rfl h1 h2
  refine ⟨GP.within hq fun j u hj hu => ?_, h1, h2, by rw [hl, cellsLen, h1, h2]; omega⟩
  have := (List.getElem?_eq_some_iff.1 hu).1
  simp only [over]
  rw [if_pos (by omega)]
  simpa using hu
 unfold psetA at h
 split at h
 ·split at h
  ·rename_i hc
   simp only [Option.some.injEq] at h; subst h
   exact whole hq hl hc.1 hc.2.1 (by simp [plen, hc.2.2]) rfl
  ·cases h
 ·split at h
  ·rename_i hc
   simp only [Option.some.injEq] at h; subst h
   exact whole hq hl hc.2.1 hc.2.2.1 (by simp [plen, hc.2.2.2]) rfl
  ·cases h
 ·split at h
  ·rename_i hc
   simp only [Option.some.injEq] at h; subst h
   exact whole hq hl hc.2.1 hc.2.2.1 (by simp [plen, hc.2.2.2]) (by simp [pesz, hc.1])
  ·cases h
 ·rename_i e l _
  split at h
  ·rename_i c cs hc hcs
   split at h
   ·rename_i hle
    simp only [Option.some.injEq] at h; subst h
    obtain ⟨hcl, hcr⟩ := flat_rel hS hq hc
    simp only [GP, plen, pesz] at hp ⊢
    have hi := (List.getElem?_eq_some_iff.1 hcs).1
    obtain ⟨cs', e1, e2, h3⟩ := hp.2 _ _ hcs
    simp only [AV.pc.injEq] at e1; subst e1
    have hle2 : i * e + f + vs.length ≤ l.length * e := by
     have : (i + 1) * e ≤ l.length * e := Nat.mul_le_mul_right _ hi
     rw [Nat.succ_mul] at this
     omega
    refine ⟨⟨hp.1, fun j b hb => ?_⟩, by simp, trivial, hle2⟩
    rcases get_set hb with ⟨e', rfl, _⟩ | ⟨e', hb⟩
    ·subst e'
     refine ⟨_, rfl, by rw [splice_len hle.1]; exact e2, fun k x hk => ?_⟩
     rw [splice_get hle.1] at hk
     split at hk
     ·rename_i hk2
      obtain ⟨u, h4, h5⟩ := hcr _ _ hk
      refine ⟨u, ?_, h5⟩
      simp only [over]
      rw [if_pos (by omega), ← h4]
      congr 1; omega
     ·rename_i hk2
      obtain ⟨u, h4, h5⟩ := h3 k x hk
      refine ⟨u, ?_, h5⟩
      simp only [over]
      rw [if_neg (by omega)]
      exact h4
    ·obtain ⟨cs', e1, e2', h4⟩ := hp.2 _ _ hb
     refine ⟨cs', e1, e2', fun k x hk => ?_⟩
     obtain ⟨u, h5, h6⟩ := h4 k x hk
     refine ⟨u, ?_, h6⟩
     simp only [over]
     rw [if_neg ?_]
     ·exact h5
     ·have hk' := (List.getElem?_eq_some_iff.1 hk).1
      rintro ⟨h7, h8⟩
      have hlt : j * e + k < (i + 1) * e := by rw [Nat.succ_mul]; omega
      have hge : i * e ≤ j * e + k := by omega
      have d1 : (j * e + k) / e = j := by rw [Nat.mul_comm j e, Nat.mul_add_div hp.1, Nat.div_eq_of_lt (by omega)]; omega
      have d2 : (j * e + k) / e < i + 1 := (Nat.div_lt_iff_lt_mul hp.1).2 hlt
      have d3 : i ≤ (j * e + k) / e := (Nat.le_div_iff_mul_le hp.1).2 hge
      omega
   ·cases h
  ·cases h
 ·rename_i l q _
  split at h
  ·rename_i c hc
   split at h
   ·rename_i hle
    simp only [Option.some.injEq] at h; subst h
    obtain ⟨hcl, hcr⟩ := flat_rel hS hq hc
    simp only [GP, plen, pesz, Nat.mul_one] at hp ⊢
    refine ⟨fun j a ha => ?_, splice_len hle.1, trivial, by omega⟩
    rw [splice_get hle.1] at ha
    split at ha
    ·rename_i hk
     obtain ⟨u, h4, h5⟩ := hcr _ _ ha
     refine ⟨u, ?_, h5⟩
     simp only [over]
     rw [if_pos (by omega), ← h4]
    ·rename_i hk
     obtain ⟨u, h4, h5⟩ := hp j a ha
     refine ⟨u, ?_, h5⟩
     simp only [over]
     rw [if_neg (by omega)]
     exact h4
   ·cases h
  ·cases h
 ·cases h

theorem putV_rel (hS : ∀ k n, S (.int k n) (.int k n)) (hS' : ∀ k n u, S (.int k n) u → u = .int k n) {C : Ctx} {ob : Obj} {t : TypeId} {i f : Nat} {x p' : AV} {r : Nat → Option Value} {v : Value} (hp : GP S ob.p r)
  (hx : (∃ q, x = .agg q ∧ GP S q (fun j => v.cells[j]?) ∧ v.cells.size = cellsLen q) ∨ (scalar x = true ∧ S x v ∧ v.oneCell' = true)) (h : putV C ob t i f x = some p') :
  GP S p' (over r (i * pesz ob.p + f) v.cells.toList) ∧ plen p' = plen ob.p ∧ pesz p' = pesz ob.p ∧ i * pesz ob.p + f + v.cells.size ≤ plen ob.p * pesz ob.p ∧ v.cells.size = sizeT C t ∧
   (∀ u ∈ v.cells.toList, u.oneCell' = true) ∧ ∃ d, C.P.underlying t = some d := by
 rcases hx with ⟨q, rfl, hq, hl⟩ | ⟨hs, h1, h2⟩
 ·simp only [putV] at h
  split at h
  ·rename_i hc
   have hq' : GP S q (fun j => v.cells.toList[j]?) := by simpa using hq
   obtain ⟨h3, h4, h5, h6⟩ := psetA_rel hS hp hq' (by simpa using hl) h
   refine ⟨h3, h4, h5, by simpa using h6, hl.trans hc.1, ?_, isAggT_some hc.2.1⟩
   intro u hu
   obtain ⟨j, hj⟩ := List.getElem?_of_mem hu
   have hlt := (List.getElem?_eq_some_iff.1 hj).1
   have hcl : v.cells.toList.length = cellsLen q := by simpa using hl
   rw [cellsLen] at hcl
   obtain ⟨u', h7, h8⟩ := GP.has hq' j (by omega)
   rw [hj] at h7
   simp only [Option.some.injEq] at h7
   rw [h7]; exact h8
  ·cases h
 ·have hc : v.cells = #[v] := by cases v <;> first | rfl | (simp [Value.oneCell'] at h2)
  have hx : ∀ q, x ≠ .agg q := by rintro q rfl; simp [scalar] at hs
  have h' : (if isAggT C t = false ∧ okT C t = true ∧ sizeT C t = 1 ∧ scalar x = true then pset ob.p i f x else none) = some p' := by
   unfold putV at h
   split at h
   ·exact absurd rfl (hx _)
   ·exact h
  split at h'
  ·rename_i hcond
   obtain ⟨h3, h4, h5, h6⟩ := GP.set hS' hp h' h1 h2
   obtain ⟨d, hd, _⟩ := okT_some hcond.2.1
   refine ⟨?_, h4, h5, by rw [hc]; simp; omega, by rw [hc, hcond.2.2.1]; rfl, by rw [hc]; simpa using h2, d, hd⟩
   rw [hc]
   have : over r (i * pesz ob.p + f) #[v].toList = fun j => if j = i * pesz ob.p + f then some v else r j := by
    funext j
    simp only [over]
    by_cases hj : j = i * pesz ob.p + f
    ·rw [if_pos (by simp; omega), if_pos hj, hj]; simp
    ·rw [if_neg (by simp; omega), if_neg hj]
   rw [this]
   exact h3
  ·cases h'

end

theorem run_storeVar {C : Ctx} {w : World} {t : TypeId} {d : TypeDesc} (hu : C.P.underlying t = some d) {b o : Nat} {cur : Array Value} {E : TypeId} {v : Value} (hg : w.heap[b]? = some (.cells cur E (0, 0)))
  (hs : v.cells.size = sizeT C t) (hle : o + v.cells.size ≤ cur.size) (h1 : ∀ u ∈ v.cells.toList, u.oneCell' = true) :
  (storeVar t ⟨b, o, none⟩ v).run C.P w = .ok () (w.setRow b (cur.toList.take o ++ v.cells.toList ++ cur.toList.drop (o + v.cells.size)).toArray) := by
 have := run_storeCells_at C.P b o E v.cells.toList 0 cur w hg (by simpa using hle) h1
 simp only [Nat.add_zero, Array.length_toList] at this
 simp [storeVar, run_sizeOf hu, hs, this]

theorem over_row {cur : Array Value} {o : Nat} {vs : List Value} (hle : o + vs.length ≤ cur.size) (base k : Nat) (hb : base + k = o) (j : Nat) :
  (cur.toList.take o ++ vs ++ cur.toList.drop (o + vs.length)).toArray[base + j]? = over (fun j => cur[base + j]?) k vs j := by
 simp only [over, List.getElem?_toArray]
 have h1 : (cur.toList.take o).length = o := by simp; omega
 by_cases hj : base + j < o
 ·rw [if_neg (by omega), List.append_assoc, List.getElem?_append_left (by omega), List.getElem?_take, if_pos hj]
  simp
 ·rw [List.append_assoc, List.getElem?_append_right (by omega), h1]
  by_cases hj2 : base + j < o + vs.length
  ·rw [if_pos (by omega), List.getElem?_append_left (by omega)]
   congr 1; omega
  ·rw [if_neg (by omega), List.getElem?_append_right (by omega), List.getElem?_drop]
   simp only [Array.getElem?_toList]
   congr 1; omega

theorem joinTag_ok {T : Nat → Nat → Prop} (hm : ∀ t b, T 0 b → T t b) {a b r : Nat} (h : joinTag a b = some r) : (∀ x, T a x → T r x) ∧ (∀ x, T b x → T r x) := by
 unfold joinTag at h
 split at h
 ·rename_i h0
  simp only [Option.some.injEq] at h; subst h0; subst h
  exact ⟨fun x => hm _ x, fun _ h => h⟩
 ·split at h
  ·rename_i h0 h1
   simp only [Option.some.injEq] at h; subst h
   rcases h1 with rfl | rfl
   ·exact ⟨fun _ h => h, fun x => hm _ x⟩
   ·exact ⟨fun _ h => h, fun _ h => h⟩
  ·cases h

theorem joinTags_ok {T : Nat → Nat → Prop} (hm : ∀ t b, T 0 b → T t b) : ∀ {l : List Nat} {r : Nat}, joinTags l = some r → ∀ t ∈ l, ∀ x, T t x → T r x
 | [], r, _, t, ht => by simp at ht
 | a :: l, r, h, t, ht => by
  simp only [joinTags] at h
  cases hl : joinTags l with
  | none => rw [hl] at h; cases h
  | some r' =>
   rw [hl] at h
   obtain ⟨h1, h2⟩ := joinTag_ok hm (show joinTag a r' = some r from h)
   rcases List.mem_cons.1 ht with rfl | ht
   ·exact h1
   ·exact fun x hx => h2 x (joinTags_ok hm hl t ht x hx)

theorem idsL_mem : ∀ {l : List AV} {a : AV}, a ∈ l → ∀ x, x ∈ ids a → x ∈ idsL l
 | [], a, h, _, _ => by simp at h
 | b :: l, a, h, x, hx => by
  simp only [idsL, List.mem_append]
  rcases List.mem_cons.1 h with rfl | h
  ·exact .inl hx
  ·exact .inr (idsL_mem h x hx)

theorem tagsL_mem : ∀ {l : List AV} {a : AV}, a ∈ l → ∀ x, x ∈ tags a → x ∈ tagsL l
 | [], a, h, _, _ => by simp at h
 | b :: l, a, h, x, hx => by
  simp only [tagsL, List.mem_append]
  rcases List.mem_cons.1 h with rfl | h
  ·exact .inl hx
  ·exact .inr (tagsL_mem h x hx)

/-- a cell without ids is only read -/
theorem SRel.rv {K : Kx} {T : Nat → Nat → Prop} {a : AV} {v : Value} {tg : Nat} (h : SRel K T a v) (hi : ∀ x, x ∉ ids a) (ht : ∀ t ∈ tags a, ∀ x, T t x → T tg x) : RV K.w (NT K T tg) a v := by
 cases a
 case ptr o i f g => exact absurd (by simp [ids]) (hi o)
 case sl o i f g => exact absurd (by simp [ids]) (hi o)
 case map o g => exact absurd (by simp [ids]) (hi o)
 case ro c p t => exact RV_mono (fun b hb => ⟨⟨ht t (by simp [tags]) b hb.1, hb.2⟩, fun _ _ h => h⟩) _ _ h
 all_goals
  simp only [SRel] at h
  exact RV_mono (fun _ h => False.elim h) _ _ h

theorem GP.rv {K : Kx} {T : Nat → Nat → Prop} {p : AV} {r : Nat → Option Value} {tg : Nat} (h : GP (SRel K T) p r) (hi : ∀ x, x ∉ ids p) (ht : ∀ t ∈ tags p, ∀ x, T t x → T tg x) : GP (RV K.w (NT K T tg)) p r := by
 cases p <;> simp only [GP] at h ⊢ <;> try exact h
 case pc l =>
  intro j a ha
  obtain ⟨v, h1, h2, h3⟩ := h j a ha
  have hm := List.mem_of_getElem? ha
  exact ⟨v, h1, h2, h3.rv (fun x hx => hi x (by simp only [ids]; exact idsL_mem hm x hx)) (fun t ht' => ht t (by simp only [tags]; exact tagsL_mem hm t ht'))⟩
 case pr e l =>
  refine ⟨h.1, fun j a ha => ?_⟩
  obtain ⟨cs, rfl, h1, h2⟩ := h.2 j a ha
  have hm := List.mem_of_getElem? ha
  refine ⟨cs, rfl, h1, fun k b hb => ?_⟩
  obtain ⟨v, h3, h4, h5⟩ := h2 k b hb
  have hm2 := List.mem_of_getElem? hb
  exact ⟨v, h3, h4, h5.rv (fun x hx => hi x (by simp only [ids]; exact idsL_mem hm x (by simp only [ids]; exact idsL_mem hm2 x hx)))
   (fun t ht' => ht t (by simp only [tags]; exact tagsL_mem hm t (by simp only [tags]; exact tagsL_mem hm2 t ht')))⟩

/-- one object's cells turned in place -/
theorem Inv.store {C : Ctx} {K : Kx} {T : Nat → Nat → Prop} (hI : Inv C K T) {o g : Nat} {ob : Obj} {p' : AV} {tg : Nat} {cur : Array Value} {E : TypeId} {k : Nat} {vs : List Value} (hob : live K.H o g = some ob)
  (hpm : isPm ob.p = false) (hpm' : isPm p' = false) (hlen : plen p' = plen ob.p) (hesz : pesz p' = pesz ob.p) (hk : k + vs.length ≤ plen ob.p * pesz ob.p) (hC : (K.μ o).cap ≠ 0)
  (hg : K.w.heap[(K.μ o).blk]? = some (.cells cur E (0, 0))) (hcur : (K.μ o).base + (K.μ o).cap * pesz ob.p ≤ cur.size)
  (hpay : PayOk K T { ob with p := p', tg := tg } (over (fun j => cur[(K.μ o).base + j]?) k vs)) :
  Inv C ⟨K.μ, upd K.H o (some { ob with p := p', tg := tg }), K.w.setRow (K.μ o).blk (cur.toList.take ((K.μ o).base + k) ++ vs ++ cur.toList.drop ((K.μ o).base + k + vs.length)).toArray⟩ T ∧
   Evo T K.H.length K ⟨K.μ, upd K.H o (some { ob with p := p', tg := tg }), K.w.setRow (K.μ o).blk (cur.toList.take ((K.μ o).base + k) ++ vs ++ cur.toList.drop ((K.μ o).base + k + vs.length)).toArray⟩ := by
 obtain ⟨h1, h2⟩ := live_iff.1 hob
 obtain ⟨hsh, hcl⟩ := (hI.obj o ob h1).open hpm
 have hlt := (List.getElem?_eq_some_iff.1 h1).1
 have hle : plen ob.p * pesz ob.p ≤ (K.μ o).cap * pesz ob.p := Nat.mul_le_mul_right _ hsh.1
 have hfit : (K.μ o).base + k + vs.length ≤ cur.size := by omega
 have hO : Own K (K.μ o).blk := ⟨o, ob, h1, .inr hC, rfl⟩
 have heq : ∀ ob', (upd K.H o (some { ob with p := p', tg := tg }))[o]? = some (some ob') → ob' = { ob with p := p', tg := tg } := by
  intro ob' h
  rcases upd_get h with ⟨_, h⟩ | ⟨h, _⟩
  ·simpa using h.symm
  ·exact absurd rfl h
 refine Inv.turn hI o (by simp [upd_len]) (fun j hj ob' h => ?_) (by simp) rfl rfl rfl (fun b hb hf => .inl ?_) (fun ob' h hr => ?_) (fun _ ob' h => ?_) (fun hE ob' h => ?_)
 ·rcases upd_get h with ⟨e, _⟩ | ⟨_, h⟩
  ·exact absurd e hj
  ·exact ⟨h, rfl⟩
 ·exact setRow_other _ _ _ _ (Ne.symm (hf ob h1 (.inr hC)))
 ·exact ⟨.inl ⟨ob, h1, .inr hC, rfl⟩, by simpa using (hI.own _ hO).1⟩
 ·have := heq ob' h; subst this
  exact ⟨ob, h1, Nat.le_refl _, fun _ => ⟨rfl, hesz, hlen, rfl, by simp [hpm, hpm']⟩⟩
 ·have := heq ob' h; subst this
  unfold ObjOk
  split
  ·rename_i heq'; simp only at heq'; rw [heq'] at hpm'; simp [isPm] at hpm'
  ·refine ⟨⟨by simp only [hlen]; exact hsh.1, hsh.2.1, fun hr => by simp only [hlen]; exact hsh.2.2.1 hr, fun hz => by simp only [hlen]; exact hsh.2.2.2 hz⟩, fun _ => ?_⟩
   refine ⟨_, E, setRow_heap _ _ _ _ _ _ hg, ?_, ?_, ?_⟩
   ·simp only [hesz, List.size_toArray, List.length_append, List.length_take, List.length_drop, Array.length_toList]
    omega
   ·simp only [hesz]
    obtain ⟨_, _, _, _, h5, _⟩ := hcl hC
    exact h5
   ·have : (fun j => (cur.toList.take ((K.μ o).base + k) ++ vs ++ cur.toList.drop ((K.μ o).base + k + vs.length)).toArray[(K.μ o).base + j]?) = over (fun j => cur[(K.μ o).base + j]?) k vs := by
     funext j
     exact over_row hfit _ _ rfl j
    rw [this]
    exact PayOk.evo hE (Nat.le_refl _) hpay

theorem flat_len {q : AV} {c : List AV} (hc : flatCells q = some c) : c.length = cellsLen q := by
 cases q <;> simp only [flatCells, Option.some.injEq, reduceCtorEq] at hc <;> subst hc <;> simp [cellsLen, plen, pesz]

theorem putV_len {C : Ctx} {ob : Obj} {t : TypeId} {i f : Nat} {x p' : AV} (h : putV C ob t i f x = some p') : plen ob.p ≠ 0 := by
 unfold putV at h
 split at h
 ·rename_i q
  split at h
  ·rename_i hc
   intro h0
   have hq : cellsLen q ≠ 0 := by rw [hc.1]; exact hc.2.2
   unfold psetA at h
   split at h
   ·split at h
    ·rename_i hl; simp_all [plen, cellsLen]; omega
    ·cases h
   ·split at h
    ·rename_i hl; simp_all [plen, cellsLen]; omega
    ·cases h
   ·split at h
    ·rename_i hl; simp_all [plen, cellsLen]; omega
    ·cases h
   ·split at h
    ·rename_i hcs
     have := (List.getElem?_eq_some_iff.1 hcs).1
     simp_all [plen]
    ·cases h
   ·split at h
    ·rename_i hcs
     split at h
     ·rename_i hl
      have := flat_len hcs
      simp_all [plen]
     ·cases h
    ·cases h
   ·cases h
  ·cases h
 ·split at h
  ·unfold pset at h
   split at h
   ·split at h
    ·rename_i hl; intro h0; simp_all [plen]
    ·cases h
   ·split at h
    ·rename_i hl; intro h0; simp_all [plen]
    ·cases h
   ·split at h
    ·rename_i hl; intro h0; simp_all [plen]
    ·cases h
   ·split at h
    ·rename_i hcs
     have := (List.getElem?_eq_some_iff.1 hcs).1
     intro h0
     simp_all [plen]
    ·cases h
   ·cases h
  ·cases h

theorem hx_of {K : Kx} {T : Nat → Nat → Prop} {C : Ctx} {ob : Obj} {t : TypeId} {i f : Nat} {x p' : AV} {v : Value} (h : putV C ob t i f x = some p') (hv : VRel K T x v) :
  (∃ q, x = .agg q ∧ GP (SRel K T) q (fun j => v.cells[j]?) ∧ v.cells.size = cellsLen q) ∨ (scalar x = true ∧ SRel K T x v ∧ v.oneCell' = true) := by
 unfold putV at h
 split at h
 ·rename_i q
  simp only [VRel, V1Rel] at hv
  obtain ⟨cs, rfl, h1, h2⟩ := hv
  exact .inl ⟨q, rfl, h2, h1⟩
 ·split at h
  ·rename_i hc
   have := SRel.of_v hc.2.2.2 hv
   exact .inr ⟨hc.2.2.2, this, this.cell hc.2.2.2⟩
  ·cases h

theorem storeV_ok {C : Ctx} {K : Kx} {T : Nat → Nat → Prop} (hI : Inv C K T) {t : TypeId} {a x : AV} {va vx : Value} {H' : Heap} (ha : VRel K T a va) (hx : VRel K T x vx) (h : storeV C K.H t a x = some H') :
  ∃ w', (Instr.storeAt t va vx).run C.P K.w = .ok () w' ∧ Inv C ⟨K.μ, H', w'⟩ T ∧ Evo T K.H.length K ⟨K.μ, H', w'⟩ := by
 have put : ∀ {K : Kx} {o i f g : Nat} {ob : Obj} {x p' : AV} {tg : Nat} {S : AV → Value → Prop}, Inv C K T → live K.H o g = some ob → SRel K T (.ptr o i f g) va →
   (∀ k n, S (.int k n) (.int k n)) → (∀ k n u, S (.int k n) u → u = .int k n) → (∀ r, PayOk K T ob r → GP S ob.p r) → (∀ p' r, GP S p' r → PayOk K T { ob with p := p', tg := tg } r) →
   ((∃ q, x = .agg q ∧ GP S q (fun j => vx.cells[j]?) ∧ vx.cells.size = cellsLen q) ∨ (scalar x = true ∧ S x vx ∧ vx.oneCell' = true)) → putV C ob t i f x = some p' →
   ∃ w', (Instr.storeAt t va vx).run C.P K.w = .ok () w' ∧ Inv C ⟨K.μ, upd K.H o (some { ob with p := p', tg := tg }), w'⟩ T ∧ Evo T K.H.length K ⟨K.μ, upd K.H o (some { ob with p := p', tg := tg }), w'⟩ := by
  intro K o i f g ob x p' tg S hI hob hv hS hS' hpay hpay' hx hput
  simp only [SRel] at hv
  obtain ⟨h1, h2⟩ := live_iff.1 hob
  obtain ⟨hpm, rfl⟩ := (hv.2.2 ob h1).2 h2
  obtain ⟨hsh, hcl⟩ := (hI.obj o ob h1).open hpm
  have hsz0 : vx.cells.size ≠ 0 → plen ob.p ≠ 0 → (K.μ o).cap ≠ 0 := fun _ h => by have := hsh.1; omega
  by_cases hn : plen ob.p = 0
  ·-- nothing can be laid into an empty payload but nothing
   exact absurd hn (putV_len hput)
  ·have hC : (K.μ o).cap ≠ 0 := by have := hsh.1; omega
   obtain ⟨cur, E, h3, h4, h5, h6⟩ := hcl hC
   obtain ⟨h7, h8, h9, h10, h11, h12, d, hd⟩ := putV_rel hS hS' (hpay _ h6) hx hput
   have hpm' : isPm p' = false := by
    cases p' <;> simp_all [GP, isPm]
   have := Inv.store (T := T) (p' := p') (tg := tg) (k := i * pesz ob.p + f) (vs := vx.cells.toList) hI hob hpm hpm' h8 h9 (by simpa using h10) hC h3 h4 (hpay' _ _ h7)
   refine ⟨_, ?_, this⟩
   have hle : plen ob.p * pesz ob.p ≤ (K.μ o).cap * pesz ob.p := Nat.mul_le_mul_right _ hsh.1
   simp only [Instr.storeAt, Instr.sureAddr, Sem.run_bind, Sem.run_pure, Result.andThen_ok]
   have := run_storeVar hd (o := (K.μ o).base + i * pesz ob.p + f) h3 h11 (by omega) h12
   rw [this]
   simp only [Array.length_toList, ← Nat.add_assoc]
 unfold storeV at h
 split at h
 ·rename_i o i f g
  split at h
  ·cases h
  ·rename_i ob hob
   split at h
   ·rename_i hids
    simp only [Option.map_eq_some_iff] at h
    obtain ⟨p', hp', rfl⟩ := h
    have hsx := hx_of hp' hx
    obtain ⟨w', h1, h2, h3⟩ := put (tg := ob.tg) (S := SRel K T) hI hob (by simpa [VRel, V1Rel] using ha) (SRel.int_self K T) (fun k n u h => by simpa [SRel, RV] using h)
     (fun r h => by unfold PayOk at h; rwa [if_pos hids] at h) (fun p' r h => by unfold PayOk; rw [if_pos (by exact hids)]; exact h) hsx hp'
    exact ⟨w', h1, h2, h3⟩
   ·rename_i hids
    split at h
    ·cases h
    ·rename_i x1 H1 hfr
     split at h
     ·cases h
     ·rename_i ob1 hob1
      split at h
      ·rename_i hemp
       split at h
       ·cases h
       ·rename_i tv htv
        split at h
        ·cases h
        ·rename_i tg htg
         simp only [Option.map_eq_some_iff] at h
         obtain ⟨p', hp', rfl⟩ := h
         have hvx : V1Rel K T x vx := by
          cases x <;> first | (simpa only [VRel] using hx) | skip
          case tup l =>
           simp only [freezeP, freezeV, Option.some.injEq, Prod.mk.injEq] at hfr
           obtain ⟨rfl, rfl⟩ := hfr
           simp [putV, scalar] at hp'
         obtain ⟨i1, e1, n1, s1⟩ := freezeP_ok hI hvx hfr
         have hx1 : VRel ⟨K.μ, H1, K.w⟩ T x1 vx := by
          cases x1 <;> first | (simpa only [VRel] using s1) | skip
          case tup l => simp [V1Rel, SRel, RV] at s1
         have hids1 : ob1.ids ≠ true := by rw [hemp.2]; decide
         have hall : ∀ y, y ∉ ids x1 := by
          intro y hy
          have : ids x1 = [] := by simpa using hemp.1
          rw [this] at hy; cases hy
         obtain ⟨j1, j2⟩ := joinTag_ok hI.mono htg
         have jt : ∀ t ∈ tags x1, ∀ y, T t y → T tg y := fun t ht y hy => j2 y (joinTags_ok hI.mono htv t ht y hy)
         have hsx : (∃ q, x1 = .agg q ∧ GP (RV K.w (NT ⟨K.μ, H1, K.w⟩ T tg)) q (fun j => vx.cells[j]?) ∧ vx.cells.size = cellsLen q) ∨ (scalar x1 = true ∧ RV K.w (NT ⟨K.μ, H1, K.w⟩ T tg) x1 vx ∧ vx.oneCell' = true) := by
          rcases hx_of hp' hx1 with ⟨q, rfl, h3, h4⟩ | ⟨h3, h4, h5⟩
          ·exact .inl ⟨q, rfl, GP.rv h3 (by simpa only [ids] using hall) (by simpa only [tags] using jt), h4⟩
          ·exact .inr ⟨h3, h4.rv hall jt, h5⟩
         obtain ⟨w', h3, h4, h5⟩ := put (K := ⟨K.μ, H1, K.w⟩) (tg := tg) (S := RV K.w (NT ⟨K.μ, H1, K.w⟩ T tg)) i1 hob1 (SRel.evo e1 (Nat.le_refl _) (by simpa [VRel, V1Rel] using ha)) (fun k n => by simp [RV]) (fun k n u h => by simpa [RV] using h)
          (fun r h => by
           unfold PayOk at h; rw [if_neg hids1] at h
           exact RP_GP.1 (RP_mono (fun b hb => ⟨⟨j1 b hb.1, hb.2⟩, fun _ _ h => h⟩) _ _ _ (fun _ _ h => h) h))
          (fun p' r h => by unfold PayOk; rw [if_neg (by exact hids1)]; exact RP_GP.2 h) hsx hp'
         exact ⟨w', h3, h4, Evo.trans e1 h5 (by show K.H.length ≤ H1.length; omega)⟩
      ·cases h
 ·cases h

end Go.AM

/- append. -/
namespace Go.AM

section
variable {P : Program} {w : World}

theorem run_append_in {t xt ty e : TypeId} {i : TypeInfo} {dx : TypeDesc} (ht : P.underlying t = some (.slice e)) (hx : P.underlying xt = some dx) (hxi : ∀ k, dx ≠ .int k) (hi : P.info? e = some i)
  {ts : Array TypeId} {vs : Array Value} (h0 : ts[0]? = some t) (h1 : ts[1]? = some xt) {g o sLen sCap m : Nat} {x : Value} {news : List Value} (hv0 : vs[0]? = some (.slice (some ⟨g, o, none⟩) sLen sCap)) (hv1 : vs[1]? = some x)
  (hlen : (Builtin.lenOf x).run P w = .ok m w) (hf : (Builtin.firstCells i.size m x).run P w = .ok news.toArray w) (hroom : sLen + m ≤ sCap)
  {cur : Array Value} {E : TypeId} (hg : w.heap[g]? = some (.cells cur E (0, 0))) (hfit : o + sLen * i.size + news.length ≤ cur.size) (hone : ∀ u ∈ news, u.oneCell' = true) :
  (Builtin.append_ ts ty vs).run P w = .ok (.slice (some ⟨g, o, none⟩) (sLen + m) sCap)
   (w.setRow g (cur.toList.take (o + sLen * i.size) ++ news ++ cur.toList.drop (o + sLen * i.size + news.length)).toArray) := by
 have hm : ∀ (b : Bool), (match dx with | .int _ => true | _ => b) = b := fun b => by cases dx <;> first | rfl | exact absurd rfl (hxi _)
 have hst := run_storeCells_at P g (o + sLen * i.size) E news 0 cur w hg (by simpa using hfit) hone
 simp only [Nat.add_zero] at hst
 simp [Builtin.append_, h0, h1, hv0, hv1, run_und ht, run_und hx, hm, sizeOf, typeInfo, hi, hlen, hroom, hf, add_lit, hst]

theorem run_append_new {t xt ty e : TypeId} {i : TypeInfo} {z : Value} {dx : TypeDesc} (ht : P.underlying t = some (.slice e)) (hx : P.underlying xt = some dx) (hxi : ∀ k, dx ≠ .int k) (hi : P.info? e = some i) (hz : i.zero = some z)
  {ts : Array TypeId} {vs : Array Value} (h0 : ts[0]? = some t) (h1 : ts[1]? = some xt) {base : Option Addr} {sLen sCap m : Nat} {x : Value} {olds news : List Value} (hv0 : vs[0]? = some (.slice base sLen sCap)) (hv1 : vs[1]? = some x)
  (hlen : (Builtin.lenOf x).run P w = .ok m w) (hf : (Builtin.firstCells i.size m x).run P w.drew = .ok news.toArray w.drew)
  (hfo : (Builtin.firstCells i.size sLen (.slice base sLen sCap)).run P w.drew = .ok olds.toArray w.drew) (hroom : sCap < sLen + m)
  (h63 : sLen + m ≤ 4611686018427387904) (hb : (sLen + m) * i.bytes ≤ 140737488355328) :
  (Builtin.append_ ts ty vs).run P w = .ok (.slice (some ⟨w.heap.size, 0, none⟩) (sLen + m) (grownCap w (sLen + m) sCap e))
    (w.drew.alloc (.cells (olds.toArray ++ news.toArray ++ Builtin.zeroCells z.cells (grownCap w (sLen + m) sCap e - (sLen + m))) e)) := by
 have hm : ∀ (b : Bool), (match dx with | .int _ => true | _ => b) = b := fun b => by cases dx <;> first | rfl | exact absurd rfl (hxi _)
 have hn : ¬ (sLen + m ≤ sCap) := by omega
 have h63' : ¬ (9223372036854775807 < ((sLen : Int) + (m : Int))) := by omega
 have hfit := growslice_fits hroom hb
 have h48' : ¬ (281474976710656 < Builtin.nextslicecap (sLen + m) sCap * i.bytes) := by omega
 simp [Builtin.append_, h0, h1, hv0, hv1, run_und ht, run_und hx, hm, sizeOf, typeInfo, zeroValue, hi, hz, hlen, hn, h63', h48', Question.forced, hf, hfo, newRow, grownCap]
 congr 2
 apply Array.ext'
 simp [List.append_assoc]

theorem run_append_nothing {t xt ty e : TypeId} {i : TypeInfo} {dx : TypeDesc} (ht : P.underlying t = some (.slice e)) (hx : P.underlying xt = some dx) (hxi : ∀ k, dx ≠ .int k) (hi : P.info? e = some i)
  {ts : Array TypeId} {vs : Array Value} (h0 : ts[0]? = some t) (h1 : ts[1]? = some xt) {base : Option Addr} {sLen sCap : Nat} {x : Value} (hv0 : vs[0]? = some (.slice base sLen sCap)) (hv1 : vs[1]? = some x)
  (hlen : (Builtin.lenOf x).run P w = .ok 0 w) (hf : (Builtin.firstCells i.size 0 x).run P w = .ok #[] w) (hroom : sLen ≤ sCap) :
  (Builtin.append_ ts ty vs).run P w = .ok (.slice base sLen sCap) w := by
 have hm : ∀ (b : Bool), (match dx with | .int _ => true | _ => b) = b := fun b => by cases dx <;> first | rfl | exact absurd rfl (hxi _)
 cases base <;> simp [Builtin.append_, h0, h1, hv0, hv1, run_und ht, run_und hx, hm, sizeOf, typeInfo, hi, hlen, hroom, hf, storeCells]

end

theorem papp_esz {p q s : AV} (h : papp p q = some s) (hn : plen q ≠ 0) : pesz s = pesz q := by
 unfold papp at h
 split at h
 ·simp only [Option.some.injEq] at h; subst h; rfl
 ·split at h
  ·simp only [Option.some.injEq] at h; subst h; rfl
  ·cases h
 ·simp only [Option.some.injEq] at h; subst h; rfl
 ·split at h
  ·rename_i he; simp only [Option.some.injEq] at h; subst h; exact he
  ·cases h
 ·exact absurd rfl hn
 ·simp only [Option.some.injEq] at h; subst h; rfl
 ·cases h

theorem firstCells_zero {P : Program} {w : World} (size : Nat) (a : Option Addr) (l c : Nat) : (Builtin.firstCells size 0 (.slice a l c)).run P w = .ok #[] w := by
 cases a <;> simp [Builtin.firstCells, loadCells, loadCellsFrom]

theorem payB_nil {S : AV → Value → Prop} {p : AV} (h : payB p = true) (h0 : plen p = 0) : LP S p [] := by
 cases p <;> simp only [payB, Bool.false_eq_true] at h <;> simp only [plen] at h0 <;> simp_all [LP, GP, plen, pesz]
 omega

theorem ptag_RP {K : Kx} {T : Nat → Nat → Prop} {p : AV} {t : Nat} {r : Nat → Option Value} (h : RP K.w (NT K T t) p r) : GP (RV K.w (NT K T (ptag p t))) p r := by
 cases p <;> simp only [ptag] <;> first | exact RP_GP.1 h | (simp only [RP] at h; simp only [GP]; exact h)

/-- what is appended -/
theorem srcV_ok {C : Ctx} {K : Kx} {T : Nat → Nat → Prop} (hI : Inv C K T) {x ys : AV} {tx : Nat} {v : Value} (hv : VRel K T x v) (h : srcV K.H x = some (ys, tx)) :
  ∃ news, LP (RV K.w (NT K T tx)) ys news ∧ (∀ u ∈ news, u.oneCell' = true) ∧ (∀ P w, (Builtin.lenOf v).run P w = .ok (plen ys) w) ∧
   (∀ size, (plen ys ≠ 0 → size = pesz ys) → ∀ P w', (∀ b off, w'.cell? ⟨b, off, none⟩ = K.w.cell? ⟨b, off, none⟩) → (Builtin.firstCells size (plen ys) v).run P w' = .ok news.toArray w') := by
 have cells : ∀ {p : AV} {a : Option Addr} {cap : Nat} {N : Nat → Prop}, payB p = true → (plen p ≠ 0 → ∃ b off, a = some ⟨b, off, none⟩ ∧ GP (RV K.w N) p (fun j => K.w.cell? ⟨b, off + j, none⟩)) →
   ∃ news, LP (RV K.w N) p news ∧ (∀ u ∈ news, u.oneCell' = true) ∧ (∀ P w, (Builtin.lenOf (.slice a (plen p) cap)).run P w = .ok (plen p) w) ∧
   (∀ size, (plen p ≠ 0 → size = pesz p) → ∀ P w', (∀ b off, w'.cell? ⟨b, off, none⟩ = K.w.cell? ⟨b, off, none⟩) → (Builtin.firstCells size (plen p) (.slice a (plen p) cap)).run P w' = .ok news.toArray w') := by
  intro p a cap N hb hp
  by_cases hn : plen p = 0
  ·refine ⟨[], payB_nil hb hn, by simp, fun P w => rfl, fun size _ P w' _ => ?_⟩
   rw [hn]
   exact firstCells_zero _ _ _ _
  ·obtain ⟨b, off, rfl, hg⟩ := hp hn
   obtain ⟨news, h1, h2, h3⟩ := GP.list hg
   refine ⟨news, h1, h3, fun P w => rfl, fun size hs P w' hw => ?_⟩
   refine run_firstCells_some (P := P) w' size (plen p) ⟨b, off, none⟩ _ _ news (by rw [h1.2, hs hn]) (fun j u hu => ?_)
   rw [add_lit, hw]
   exact h2 j u hu
 unfold srcV at h
 split at h
 ·rename_i s
  simp only [Option.some.injEq, Prod.mk.injEq] at h
  obtain ⟨rfl, rfl⟩ := h
  have := hv.str
  subst this
  refine ⟨s.map fun b => Value.int .u8 b.toNat, ⟨?_, by simp [plen, pesz]⟩, ?_, fun P w => rfl, fun size _ P w' _ => ?_⟩
  ·simp only [GP]
   intro j b hb
   simp [hb]
  ·intro u hu
   simp only [List.mem_map] at hu
   obtain ⟨b, _, rfl⟩ := hu
   rfl
  ·simp only [Builtin.firstCells, Sem.run_pure, plen]
   congr 1
   have : (⟨⟨s⟩⟩ : ByteArray).extract 0 s.length = ⟨⟨s⟩⟩ := by
    apply ByteArray.ext
    rw [ByteArray.data_extract]
    simp
   rw [this]
   simp
 ·rename_i c p t
  split at h
  ·rename_i hb
   simp only [Option.some.injEq, Prod.mk.injEq] at h
   obtain ⟨rfl, rfl⟩ := h
   simp only [VRel, V1Rel, SRel, RV] at hv
   obtain ⟨ad, cap, rfl, hs, hr⟩ := hv
   refine cells hb fun hn => ?_
   have had : ad.isSome = true := hs.2.2.1 (fun h0 => by have := (hs.2.1 h0).2; have := hs.1; omega)
   obtain ⟨⟨b, off, sp⟩, rfl⟩ := Option.isSome_iff_exists.1 had
   obtain ⟨h1, _, h2⟩ := hr _ rfl hn
   simp only at h1 h2
   subst h1
   exact ⟨b, off, rfl, ptag_RP h2⟩
  ·cases h
 ·rename_i o off len g
  split at h
  ·rename_i ob hob
   split at h
   ·cases h
   ·rename_i hids
    split at h
    ·rename_i p hp
     split at h
     ·rename_i hb
      simp only [Option.some.injEq, Prod.mk.injEq] at h
      obtain ⟨rfl, rfl⟩ := h
      simp only [VRel, V1Rel, SRel] at hv
      obtain ⟨h1, h2⟩ := live_iff.1 hob
      obtain ⟨ad, cap, rfl, hs, hr⟩ := SlOk.ro hI hob hids ((hv.2.2 ob h1).2 h2) hp
      refine cells hb fun hn => ?_
      have had : ad.isSome = true := by
       cases ad with
       | some _ => rfl
       | none =>
        exfalso
        have hc : ¬ (ob.z = 0 ∧ plen ob.p = 0) := by
         intro h0
         have := (hs.2.1 (by rw [if_pos h0])).2
         have := hs.1
         omega
        have := hs.2.2.1 (by rw [if_neg hc]; decide)
        cases this
      obtain ⟨⟨b, off', sp⟩, rfl⟩ := Option.isSome_iff_exists.1 had
      obtain ⟨h3, _, _, h4⟩ := hr _ rfl hn
      simp only at h3 h4
      subst h3
      exact ⟨b, off', rfl, ptag_RP h4⟩
     ·cases h
    ·cases h
  ·cases h
 ·cases h

end Go.AM

/- append, on the abstract machine's terms. -/
namespace Go.AM

theorem Inv.become {C : Ctx} {K : Kx} {T : Nat → Nat → Prop} (hI : Inv C K T) {o g : Nat} {ob : Obj} (hob : live K.H o g = some ob) (ob' : Obj) (m : Pl) {w' : World} (hgen : ob.g < ob'.g)
  (hsz : K.w.heap.size ≤ w'.heap.size) (hos : w'.os = K.w.os) (htape : w'.tape = K.w.tape) (hout : w'.output = K.w.output)
  (hold : ∀ b, b < K.w.heap.size → (Real ob (K.μ o) → (K.μ o).blk ≠ b) → w'.heap[b]? = K.w.heap[b]?)
  (hm : Real ob' m → ((Real ob (K.μ o) ∧ (K.μ o).blk = m.blk) ∨ K.w.heap.size ≤ m.blk) ∧ m.blk < w'.heap.size)
  (hob' : ∀ μ', μ' o = m → Evo T K.H.length K ⟨μ', upd K.H o (some ob'), w'⟩ → ObjOk ⟨μ', upd K.H o (some ob'), w'⟩ T o ob') :
  ∃ μ', μ' o = m ∧ Inv C ⟨μ', upd K.H o (some ob'), w'⟩ T ∧ Evo T K.H.length K ⟨μ', upd K.H o (some ob'), w'⟩ := by
 obtain ⟨h1, h2⟩ := live_iff.1 hob
 let μ' : Nat → Pl := fun j => if j = o then m else K.μ j
 have e1 : μ' o = m := by simp [μ']
 have e2 : ∀ j, j ≠ o → μ' j = K.μ j := fun j hj => by simp [μ', hj]
 have heq : ∀ x, (upd K.H o (some ob'))[o]? = some (some x) → x = ob' := by
  intro x h
  rcases upd_get h with ⟨_, h⟩ | ⟨h, _⟩
  ·simpa using h.symm
  ·exact absurd rfl h
 refine ⟨μ', e1, Inv.turn hI o (by simp [upd_len]) (fun j hj x h => ?_) hsz hos htape hout (fun b hb hf => .inl (hold b hb (hf ob h1))) (fun x h hr => ?_) (fun _ x h => ?_) (fun hE x h => ?_)⟩
 ·rcases upd_get h with ⟨e, _⟩ | ⟨_, h⟩
  ·exact absurd e hj
  ·exact ⟨h, e2 j hj⟩
 ·have := heq x h; subst this
  simp only [e1] at hr ⊢
  obtain ⟨h3, h4⟩ := hm hr
  refine ⟨?_, h4⟩
  rcases h3 with ⟨h5, h6⟩ | h5
  ·exact .inl ⟨ob, h1, h5, h6⟩
  ·exact .inr h5
 ·have := heq x h; subst this
  exact ⟨ob, h1, Nat.le_of_lt hgen, fun e => by omega⟩
 ·have := heq x h; subst this
  exact hob' μ' e1 hE

theorem zeroOk_some {C : Ctx} {e : TypeId} (h : zeroOk C e = true) : ∃ i z, C.P.info? e = some i ∧ i.zero = some z ∧ z.cells.size = sizeT C e ∧ i.size = sizeT C e ∧ i.bytes = bytesT C e := by
 unfold zeroOk at h
 split at h
 ·rename_i z hz
  cases hi : C.P.info? e with
  | none => rw [hi] at hz; simp at hz
  | some i =>
   rw [hi] at hz
   simp at hz
   exact ⟨i, z, rfl, hz, by simpa using h, by simp [sizeT, hi], by simp [bytesT, hi]⟩
 ·cases h

theorem LP.fore {S : AV → Value → Prop} {p : AV} {cs : List Value} (h : LP S p cs) (rest : Array Value) : GP S p (fun j => (cs.toArray ++ rest)[j]?) := by
 refine GP.imp (fun _ _ h => h) (fun j u hu => ?_) h.1
 have := (List.getElem?_eq_some_iff.1 hu).1
 rw [Array.getElem?_append_left (by simpa using this)]
 simpa using hu

theorem LP.mono {S S' : AV → Value → Prop} {p : AV} {cs : List Value} (hS : ∀ a v, S a v → S' a v) (h : LP S p cs) : LP S' p cs := ⟨GP.imp hS (fun _ _ h => h) h.1, h.2⟩

theorem psub_pay {p q : AV} {lo n : Nat} (h : psub p lo n = some q) (hp : pesz p ≠ 0) : payB q = true := by
 cases p <;> try (simp [psub] at h; done)
 all_goals try simp only [psub] at h
 case pn =>
  cases lo with
  | succ lo => simp at h
  | zero => cases n with
   | succ n => simp at h
   | zero => simp at h; subst h; rfl
 all_goals
  split at h
  ·simp only [Option.some.injEq] at h
   subst h
   simp_all [payB, pesz]
  ·cases h

set_option maxHeartbeats 4000000 in
theorem appendV_ok {C : Ctx} {K : Kx} {T : Nat → Nat → Prop} (hI : Inv C K T) {t xt ty : TypeId} {s x r : AV} {H' : Heap} {vs vx : Value} {ts : Array TypeId} {args : Array Value} (hs : VRel K T s vs) (hx : VRel K T x vx)
  (h : appendV C K.H t s x = some (r, H')) (h0 : ts[0]? = some t) (h1 : ts[1]? = some xt) (hok : okT C xt = true) (hni : isIntT C xt = false) (ha0 : args[0]? = some vs) (ha1 : args[1]? = some vx) :
  ∃ u w' μ', (Builtin.append_ ts ty args).run C.P K.w = .ok u w' ∧ Inv C ⟨μ', H', w'⟩ T ∧ Evo T K.H.length K ⟨μ', H', w'⟩ ∧ VRel ⟨μ', H', w'⟩ T r u := by
 obtain ⟨dx, hdx, hdx'⟩ := okT_some hok
 have hxi : ∀ k, dx ≠ .int k := by
  rintro k rfl
  unfold isIntT at hni
  rw [hdx'] at hni
  cases hni
 unfold appendV at h
 split at h
 ·rename_i e hu
  have hu' := und_some hu (by simp)
  split at h
  ·cases h
  ·rename_i hcond
   have hsz : sizeT C e ≠ 0 := fun h => hcond (.inl h)
   have hzo : zeroOk C e = true := by
    cases hz : zeroOk C e
    ·exact absurd (.inr hz) hcond
    ·rfl
   obtain ⟨i, z, hi, hz, hzs, his, hib⟩ := zeroOk_some hzo
   split at h
   ·cases h
   ·rename_i ys tx hsrc
    obtain ⟨news, hnews, hone, hlen, hcells⟩ := srcV_ok hI hx hsrc
    have hdrew : ∀ b off, K.w.drew.cell? ⟨b, off, none⟩ = K.w.cell? ⟨b, off, none⟩ := fun _ _ => rfl
    split at h
    ·rename_i c p tg
     split at h
     ·rename_i hc
      obtain ⟨hc1, hpb, hroom⟩ := hc
      obtain ⟨hr1, hr2⟩ := of_decide_eq_true hroom
      simp only [VRel, V1Rel, SRel, RV] at hs
      obtain ⟨ad, cap, rfl, hsh, hrd⟩ := hs
      split at h
      ·rename_i hp0
       split at h
       ·rename_i q hq
        split at h
        ·rename_i hqe
         simp only [Option.some.injEq, Prod.mk.injEq] at h
         obtain ⟨rfl, rfl⟩ := h
         have hcap : cap = 0 := by
          rcases Nat.lt_or_ge c 1 with h | h
          ·exact (hsh.2.1 (by omega)).2
          ·have := hsh.2.2.2 (by omega); omega
         subst hcap
         have hemp : LP (RV K.w (NT K T tx)) (emptyRow C e) [] := by
          unfold emptyRow
          split <;> simp [LP, GP, plen, pesz]
          all_goals omega
         obtain ⟨hq1, hq2⟩ := LP.app hemp hnews hq
         simp only [List.nil_append] at hq1
         have hel : plen (emptyRow C e) = 0 := by unfold emptyRow; split <;> rfl
         rw [hel, Nat.zero_add] at hq2
         have hqpm : isPm q = false := by have := hq1.1; cases q <;> simp_all [GP, isPm]
         by_cases hm : plen ys = 0
         ·have hf := hcells i.size (fun h => absurd hm h) C.P K.w (fun _ _ => rfl)
          have hn0 : news = [] := by have := hnews.2; rw [hm] at this; simpa using this
          subst hn0
          rw [hm] at hf hlen
          obtain ⟨μ', i1, i2, i3⟩ := pushNone hI ⟨q, 0, none, c, true, false, tx⟩ rfl rfl hqpm (by simp only; omega) rfl (ad := ad) (fun hz => (hsh.2.1 hz).1) (fun hz => hsh.2.2.1 hz)
          refine ⟨_, _, μ', run_append_nothing (w := K.w) hu' hdx hxi hi h0 h1 ha0 ha1 (hlen C.P K.w) hf (by omega), i1, i2, ?_⟩
          rw [hm, hp0]
          exact i3
         ·have hse : i.size = pesz ys := by rw [his, ← hqe]; exact (papp_esz hq hm)
          have hf := hcells i.size (fun _ => hse) C.P K.w.drew hdrew
          have hfo : (Builtin.firstCells i.size (plen p) (.slice ad (plen p) 0)).run C.P K.w.drew = .ok ([] : List Value).toArray K.w.drew := by
           rw [hp0]; exact firstCells_zero _ _ _ _
          have hrun := run_append_new (w := K.w) (ty := ty) hu' hdx hxi hi hz h0 h1 ha0 ha1 (hlen C.P K.w) hf hfo (by omega) (by omega) (by rw [hib]; omega)
          obtain ⟨μ', i1, i2, i3⟩ := pushRow (T := T) (w' := K.w.drew.alloc (.cells (([] : List Value).toArray ++ news.toArray ++ Builtin.zeroCells z.cells (grownCap K.w (plen p + plen ys) 0 e - (plen p + plen ys))) e))
           (cs := ([] : List Value).toArray ++ news.toArray ++ Builtin.zeroCells z.cells (grownCap K.w (plen p + plen ys) 0 e - (plen p + plen ys))) (E := e) (cap := grownCap K.w (plen p + plen ys) 0 e)
           hI ⟨q, 0, none, c, true, false, tx⟩ rfl rfl (fun _ => by simp only; omega) hqpm (by simp) rfl rfl rfl (alloc_new K.w.drew _) (fun b hb => alloc_old K.w.drew _ hb)
           (by simp only; rw [hq2]; have := grownCap_ge K.w (plen p + plen ys) 0 e; omega)
           (by
            have hg := grownCap_ge K.w (plen p + plen ys) 0 e
            simp only [Array.size_append, List.size_toArray, List.length_nil, Nat.zero_add, size_zeroCells, hzs, hqe, hnews.2]
            rw [← hse, his, ← Nat.add_mul, hp0]
            rw [hp0] at hg
            apply Nat.mul_le_mul_right
            omega)
           (by simp only; omega) (fun c hc => by cases hc)
           (by
            unfold PayOk
            simp only [Bool.false_eq_true, if_false]
            refine RP_GP.2 ?_
            have := hq1.fore (Builtin.zeroCells z.cells (grownCap K.w (plen p + plen ys) 0 e - (plen p + plen ys)))
            simpa using this)
          refine ⟨_, _, μ', hrun, i1, i2, ?_⟩
          simp only [hq2] at i3
          rw [hp0, Nat.zero_add] at i3 ⊢
          exact i3
        ·cases h
       ·cases h
      ·rename_i hp0
       split at h
       ·rename_i hy0
        simp only [Option.some.injEq, Prod.mk.injEq] at h
        obtain ⟨rfl, rfl⟩ := h
        have hf := hcells i.size (fun h => absurd hy0 h) C.P K.w (fun _ _ => rfl)
        have hn0 : news = [] := by have := hnews.2; rw [hy0] at this; simpa using this
        subst hn0
        rw [hy0] at hf hlen
        refine ⟨_, _, K.μ, run_append_nothing (w := K.w) hu' hdx hxi hi h0 h1 ha0 ha1 (hlen C.P K.w) hf hsh.1, hI, Evo.refl T K (Nat.le_refl _), ?_⟩
        simp only [VRel, V1Rel, SRel, RV]
        exact ⟨ad, cap, rfl, hsh, hrd⟩
       ·rename_i hy0
        split at h
        ·rename_i hpe
         obtain ⟨hpe, rfl⟩ := hpe
         split at h
         ·rename_i q tg' hq htg
          split at h
          ·rename_i hqe
           simp only [Option.some.injEq, Prod.mk.injEq] at h
           obtain ⟨rfl, rfl⟩ := h
           have hcap := hsh.2.2.2 rfl
           subst hcap
           obtain ⟨⟨b, off, sp⟩, rfl⟩ := Option.isSome_iff_exists.1 (hsh.2.2.1 (by decide))
           obtain ⟨r1, r2, r3⟩ := hrd _ rfl hp0
           simp only at r1 r2 r3
           subst r1
           obtain ⟨j1, j2⟩ := joinTag_ok hI.mono htg
           obtain ⟨olds, ho1, ho2, ho3⟩ := GP.list (ptag_RP r3)
           have mono : ∀ {t1 : Nat}, (∀ x, T t1 x → T tg' x) → ∀ a v, RV K.w (NT K T t1) a v → RV K.w (NT K T tg') a v := fun hj a v h => RV_mono (fun b hb => ⟨⟨hj b hb.1, hb.2⟩, fun _ _ h => h⟩) a v h
           obtain ⟨hq1, hq2⟩ := LP.app (ho1.mono (mono j1)) (hnews.mono (mono j2)) hq
           have hqpm : isPm q = false := by have := hq1.1; cases q <;> simp_all [GP, isPm]
           have hse : i.size = pesz ys := by rw [his, ← hqe]; exact (papp_esz hq hy0)
           have hf := hcells i.size (fun _ => hse) C.P K.w.drew hdrew
           have hfo : (Builtin.firstCells i.size (plen p) (.slice (some ⟨b, off, none⟩) (plen p) (plen p))).run C.P K.w.drew = .ok olds.toArray K.w.drew :=
            run_firstCells_some (P := C.P) K.w.drew i.size (plen p) ⟨b, off, none⟩ _ _ olds (by rw [ho1.2, hpe, his]) (fun j u hu => by rw [add_lit]; exact ho2 j u hu)
           have hrun := run_append_new (w := K.w) (ty := ty) hu' hdx hxi hi hz h0 h1 ha0 ha1 (hlen C.P K.w) hf hfo (by omega) (by omega) (by rw [hib]; omega)
           obtain ⟨μ', i1, i2, i3⟩ := pushRow (T := T) (w' := K.w.drew.alloc (.cells (olds.toArray ++ news.toArray ++ Builtin.zeroCells z.cells (grownCap K.w (plen p + plen ys) (plen p) e - (plen p + plen ys))) e))
            (cs := olds.toArray ++ news.toArray ++ Builtin.zeroCells z.cells (grownCap K.w (plen p + plen ys) (plen p) e - (plen p + plen ys))) (E := e) (cap := grownCap K.w (plen p + plen ys) (plen p) e)
            hI ⟨q, 0, none, 1, true, false, tg'⟩ rfl rfl (fun h => by cases h) hqpm (by simp) rfl rfl rfl (alloc_new K.w.drew _) (fun b hb => alloc_old K.w.drew _ hb)
            (by simp only; rw [hq2]; exact grownCap_ge _ _ _ _)
            (by
             have hg := grownCap_ge K.w (plen p + plen ys) (plen p) e
             simp only [Array.size_append, List.size_toArray, size_zeroCells, hzs, hqe, hnews.2, ho1.2]
             rw [← hse, his, hpe, ← Nat.add_mul, ← Nat.add_mul]
             apply Nat.mul_le_mul_right
             omega)
            (by simp only; omega) (fun c hc => by cases hc)
            (by
             unfold PayOk
             simp only [Bool.false_eq_true, if_false]
             refine RP_GP.2 ?_
             have := hq1.fore (Builtin.zeroCells z.cells (grownCap K.w (plen p + plen ys) (plen p) e - (plen p + plen ys)))
             simpa using this)
           refine ⟨_, _, μ', hrun, i1, i2, ?_⟩
           simp only [hq2] at i3
           exact i3
          ·cases h
         ·cases h
        ·cases h
     ·cases h
    ·rename_i o off len g
     split at h
     ·cases h
     ·rename_i ob hob
      split at h
      ·rename_i hc
       obtain ⟨hrow, hids, hfront, hpe, hroom⟩ := hc
       obtain ⟨hr1, hr2⟩ := of_decide_eq_true hroom
       split at h
       ·cases h
       ·rename_i p0 hp0
        split at h
        ·rename_i q tg' hq htg
         split at h
         ·cases h
         ·rename_i hqe0
          have hqe : pesz q = sizeT C e := by simpa using hqe0
          simp only [Option.some.injEq, Prod.mk.injEq] at h
          obtain ⟨rfl, rfl⟩ := h
          simp only [VRel, V1Rel, SRel] at hs
          obtain ⟨ho, hg⟩ := live_iff.1 hob
          obtain ⟨hpm, ad, cap, rfl, s1, s2, s3, s4, s5⟩ := (hs.2.2 ob ho).2 hg
          obtain ⟨hsh, hcl⟩ := (hI.obj o ob ho).open hpm
          obtain ⟨j1, j2⟩ := joinTag_ok hI.mono htg
          have mono : ∀ {t1 : Nat}, (∀ x, T t1 x → T tg' x) → ∀ a v, RV K.w (NT K T t1) a v → RV K.w (NT K T tg') a v := fun hj a v h => RV_mono (fun b hb => ⟨⟨hj b hb.1, hb.2⟩, fun _ _ h => h⟩) a v h
          have hlen0 := psub_len hp0
          let ob' : Obj := { ob with p := q, g := g + 1, cap := (match ob.cap with | some c => if off + len + plen ys ≤ c then some (c - off) else none | none => none), z := (if plen ob.p = 0 then ob.z else 1), tg := tg' }
          have fin : ∀ {K' : Kx} {u : Value} {m : Pl}, K'.H = upd K.H o (some ob') → K'.μ o = m → (∃ ad cap, u = .slice ad (len + plen ys) cap ∧ cap = m.cap ∧ len + plen ys ≤ plen q ∧ (cap ≠ 0 → ad = some ⟨m.blk, m.base, none⟩) ∧ (m.cap = 0 → ob'.z = 0 → ad = none) ∧ (m.cap ≠ 0 ∨ ob'.z ≠ 0 → ad.isSome = true)) →
            isPm q = false → VRel K' T (.sl o 0 (len + plen ys) (g + 1)) u := by
           rintro K' u m hH hm ⟨ad, cap, rfl, f1, f2, f3, f4, f5⟩ hqpm
           simp only [VRel, V1Rel, SRel]
           refine ⟨by rw [hH, upd_len]; exact hs.1, rfl, fun x hx => ?_⟩
           rw [hH] at hx
           have : x = ob' := by
            rcases upd_get hx with ⟨_, h⟩ | ⟨h, _⟩
            ·simpa using h.symm
            ·exact absurd rfl h
           subst this
           refine ⟨Nat.le_refl _, fun _ => ⟨hqpm, ad, cap, rfl, by rw [hm]; omega, by simp only [ob']; omega, fun hc => by rw [f3 hc, hm]; simp, fun hc hz => f4 (by rw [← hm]; exact hc) hz, fun hc => f5 (by rw [← hm]; exact hc)⟩⟩
          by_cases hC : (K.μ o).cap = 0
          ·-- no room: nothing there, and a new block if anything comes
           have hpl : plen ob.p = 0 := by have := hsh.1; omega
           have hl0 : len = 0 := by omega
           have ho0 : off = 0 := by omega
           have hcap0 : cap = 0 := by omega
           subst hl0; subst ho0; subst hcap0
           have hp0b : LP (RV K.w (NT K T ob.tg)) p0 [] := payB_nil (psub_pay hp0 (by omega)) hlen0
           obtain ⟨hq1, hq2⟩ := LP.app (hp0b.mono (mono j1)) (hnews.mono (mono j2)) hq
           simp only [List.nil_append] at hq1
           rw [hlen0, Nat.zero_add] at hq2
           have hqpm : isPm q = false := by have := hq1.1; cases q <;> simp_all [GP, isPm]
           have hz' : ob'.z = ob.z := by simp only [ob', hpl, if_true]
           by_cases hm : plen ys = 0
           ·have hf := hcells i.size (fun h => absurd hm h) C.P K.w (fun _ _ => rfl)
            have hn0 : news = [] := by have := hnews.2; rw [hm] at this; simpa using this
            subst hn0
            rw [hm] at hf hlen
            obtain ⟨μ', i0, i1, i2⟩ := Inv.become (T := T) (w' := K.w) hI hob ob' ⟨0, 0, 0⟩ (by simp only [ob']; omega) (Nat.le_refl _) rfl rfl rfl (fun _ _ _ => rfl)
             (fun h => by rcases h with h | h <;> simp_all [ob'])
             (fun μ' hμ hE => by
              unfold ObjOk
              split
              ·rename_i heq; simp only [ob'] at heq; rw [heq] at hqpm; simp [isPm] at hqpm
              ·simp only [hμ]
               refine ⟨⟨by simp only [ob']; omega, fun c hc => ?_, fun h => by simp [ob', hrow] at h, fun _ => .inl rfl⟩, fun h => absurd rfl h⟩
               simp only [ob'] at hc
               cases hoc : ob.cap with
               | none => simp [hoc] at hc
               | some c0 =>
                have := hsh.2.1 c0 hoc
                simp only [hoc, hm] at hc
                rw [if_pos (by omega)] at hc
                simp only [Option.some.injEq] at hc
                simp only; omega)
            refine ⟨_, _, μ', run_append_nothing (w := K.w) hu' hdx hxi hi h0 h1 ha0 ha1 (hlen C.P K.w) hf (by omega), i1, i2, ?_⟩
            refine fin (m := ⟨0, 0, 0⟩) rfl i0 ⟨ad, 0, by rw [hm], rfl, by omega, fun h => absurd rfl h, fun _ hz0 => s4 hC (by rw [← hz']; exact hz0), fun h => ?_⟩ hqpm
            rcases h with h | h
            ·exact absurd rfl h
            ·exact s5 (.inr (by rw [← hz']; exact h))
           ·have hse : i.size = pesz ys := by rw [his, ← hqe]; exact (papp_esz hq hm)
            have hf := hcells i.size (fun _ => hse) C.P K.w.drew hdrew
            have hfo : (Builtin.firstCells i.size 0 (.slice ad 0 0)).run C.P K.w.drew = .ok ([] : List Value).toArray K.w.drew := firstCells_zero _ _ _ _
            have hrun := run_append_new (w := K.w) (ty := ty) hu' hdx hxi hi hz h0 h1 ha0 ha1 (hlen C.P K.w) hf hfo (by omega) (by omega) (by rw [hib]; omega)
            have hgc := grownCap_ge K.w (0 + plen ys) 0 e
            obtain ⟨μ', i0, i1, i2⟩ := Inv.become (T := T) (w' := K.w.drew.alloc (.cells (([] : List Value).toArray ++ news.toArray ++ Builtin.zeroCells z.cells (grownCap K.w (0 + plen ys) 0 e - (0 + plen ys))) e))
             hI hob ob' ⟨K.w.heap.size, 0, grownCap K.w (0 + plen ys) 0 e⟩ (by simp only [ob']; omega) (by simp) rfl rfl rfl (fun b hb _ => alloc_old K.w.drew _ hb)
             (fun _ => ⟨.inr (Nat.le_refl _), by simp⟩)
             (fun μ' hμ hE => by
              unfold ObjOk
              split
              ·rename_i heq; simp only [ob'] at heq; rw [heq] at hqpm; simp [isPm] at hqpm
              ·simp only [hμ]
               refine ⟨⟨by simp only [ob']; omega, fun c hc => ?_, fun h => by simp [ob', hrow] at h, fun _ => .inr (by simp only [ob']; omega)⟩, fun _ => ⟨_, e, alloc_new K.w.drew _, ?_, by simp only [ob']; omega, ?_⟩⟩
               ·simp only [ob'] at hc
                cases hoc : ob.cap with
                | none => simp [hoc] at hc
                | some c0 =>
                 have := hsh.2.1 c0 hoc
                 simp only [hoc] at hc
                 rw [if_neg (by omega)] at hc
                 cases hc
               ·simp only [ob', Array.size_append, List.size_toArray, List.length_nil, Nat.zero_add, size_zeroCells, hzs, hqe, hnews.2]
                rw [← hse, his, ← Nat.add_mul]
                apply Nat.mul_le_mul_right
                simp only [Nat.zero_add] at hgc
                omega
               ·refine PayOk.evo hE (Nat.le_refl _) ?_
                unfold PayOk
                rw [if_neg (by simp only [ob', hids]; decide)]
                refine RP_GP.2 ?_
                have := hq1.fore (Builtin.zeroCells z.cells (grownCap K.w (0 + plen ys) 0 e - (0 + plen ys)))
                simpa using this)
            refine ⟨_, _, μ', hrun, i1, i2, ?_⟩
            exact fin (m := ⟨K.w.heap.size, 0, grownCap K.w (0 + plen ys) 0 e⟩) rfl i0 ⟨_, _, rfl, rfl, by omega, fun _ => rfl, fun h => by simp only at h; omega, fun _ => rfl⟩ hqpm
          ·obtain ⟨cur, E, c1, c2, c3, c4⟩ := hcl hC
           unfold PayOk at c4
           rw [if_neg (by rw [hids]; decide)] at c4
           have hsub := (GP.sub (RP_GP.1 c4) hp0).1
           have hpe0 : pesz p0 = sizeT C e := by rw [(GP.sub (RP_GP.1 c4) hp0).2.2.1, hpe]
           obtain ⟨olds, ho1, ho2, ho3⟩ := GP.list hsub
           obtain ⟨hq1, hq2⟩ := LP.app (ho1.mono (mono j1)) (hnews.mono (mono j2)) hq
           rw [hlen0] at hq2
           have hqpm : isPm q = false := by have := hq1.1; cases q <;> simp_all [GP, isPm]
           have hol : olds.length = len * sizeT C e := by rw [ho1.2, hlen0, hpe0]
           have hnl : news.length = plen ys * sizeT C e := by
            rw [hnews.2]
            by_cases hm : plen ys = 0
            ·rw [hm]; simp
            ·rw [← papp_esz hq hm, hqe]
           have hse : plen ys ≠ 0 → i.size = pesz ys := fun hm => by rw [his, ← hqe]; exact (papp_esz hq hm)
           have hz' : ob'.z ≠ 0 := by
            simp only [ob']
            split
            ·rename_i hpl
             intro hz0
             rcases hsh.2.2.2 hz0 with h | h
             ·exact hC h
             ·exact h hpl
            ·decide
           have hoc : ∀ c, ob'.cap = some c → ∃ c0, ob.cap = some c0 ∧ c0 = (K.μ o).cap ∧ off + len + plen ys ≤ c0 ∧ c = c0 - off := by
            intro c hc
            simp only [ob'] at hc
            cases hoc : ob.cap with
            | none => simp [hoc] at hc
            | some c0 =>
             simp only [hoc] at hc
             split at hc
             ·rename_i hle
              simp only [Option.some.injEq] at hc
              exact ⟨c0, rfl, hsh.2.1 c0 hoc, hle, hc.symm⟩
             ·cases hc
           by_cases hroom2 : len + plen ys ≤ cap
           ·by_cases hcap : cap = 0
            ·have hm : plen ys = 0 := by omega
             have hl0 : len = 0 := by omega
             have hf := hcells i.size (fun h => absurd hm h) C.P K.w (fun _ _ => rfl)
             have hn0 : news = [] := by have := hnews.2; rw [hm] at this; simpa using this
             subst hn0
             rw [hm] at hf hlen
             obtain ⟨μ', i0, i1, i2⟩ := Inv.become (T := T) (w' := K.w) hI hob ob' ⟨0, 0, 0⟩ (by simp only [ob']; omega) (Nat.le_refl _) rfl rfl rfl (fun _ _ _ => rfl)
              (fun h => by rcases h with h | h <;> simp_all [ob'])
              (fun μ' hμ hE => by
               unfold ObjOk
               split
               ·rename_i heq; simp only [ob'] at heq; rw [heq] at hqpm; simp [isPm] at hqpm
               ·simp only [hμ]
                refine ⟨⟨by simp only [ob']; omega, fun c hc => ?_, fun h => by simp [ob', hrow] at h, fun _ => .inl rfl⟩, fun h => absurd rfl h⟩
                obtain ⟨c0, _, h2, _, h4⟩ := hoc c hc
                simp only; omega)
             refine ⟨_, _, μ', run_append_nothing (w := K.w) hu' hdx hxi hi h0 h1 ha0 ha1 (hlen C.P K.w) hf (by omega), i1, i2, ?_⟩
             exact fin (m := ⟨0, 0, 0⟩) rfl i0 ⟨ad, cap, by rw [hm, hl0], hcap, by omega, fun h => absurd hcap h, fun _ hz0 => absurd hz0 hz', fun _ => s5 (.inl hC)⟩ hqpm
            ·have had := s3 hcap
             subst had
             have hf := hcells i.size hse C.P K.w (fun _ _ => rfl)
             have hCe : (off + len + plen ys) * sizeT C e ≤ (K.μ o).cap * sizeT C e := Nat.mul_le_mul_right _ (by omega)
             rw [hpe] at c2
             rw [Nat.add_mul, Nat.add_mul] at hCe
             rw [hpe] at ha0
             have hrun := run_append_in (w := K.w) (ty := ty) hu' hdx hxi hi h0 h1 ha0 ha1 (hlen C.P K.w) hf hroom2 c1 (by rw [his]; omega) hone
             have hO : Own K (K.μ o).blk := ⟨o, ob, ho, .inr hC, rfl⟩
             obtain ⟨μ', i0, i1, i2⟩ := Inv.become (T := T) (w' := K.w.setRow (K.μ o).blk (cur.toList.take ((K.μ o).base + off * sizeT C e + len * i.size) ++ news ++ cur.toList.drop ((K.μ o).base + off * sizeT C e + len * i.size + news.length)).toArray)
              hI hob ob' ⟨(K.μ o).blk, (K.μ o).base + off * sizeT C e, (K.μ o).cap - off⟩ (by simp only [ob']; omega) (by simp) rfl rfl rfl
              (fun b hb hne => setRow_other _ _ _ _ (Ne.symm (hne (.inr hC))))
              (fun _ => ⟨.inl ⟨.inr hC, rfl⟩, by simpa using (hI.own _ hO).1⟩)
              (fun μ' hμ hE => by
               unfold ObjOk
               split
               ·rename_i heq; simp only [ob'] at heq; rw [heq] at hqpm; simp [isPm] at hqpm
               ·simp only [hμ]
                refine ⟨⟨by simp only [ob']; omega, fun c hc => ?_, fun h => by simp [ob', hrow] at h, fun h => absurd h hz'⟩, fun _ => ⟨_, E, setRow_heap _ _ _ _ _ _ c1, ?_, by simp only [ob']; omega, ?_⟩⟩
                ·obtain ⟨c0, _, h2, _, h4⟩ := hoc c hc
                 simp only; omega
                ·simp only [ob', hqe, List.size_toArray, List.length_append, List.length_take, List.length_drop, Array.length_toList]
                 have : ((K.μ o).cap - off) * sizeT C e + off * sizeT C e = (K.μ o).cap * sizeT C e := by rw [← Nat.add_mul]; congr 1; omega
                 omega
                ·refine PayOk.evo hE (Nat.le_refl _) ?_
                 unfold PayOk
                 rw [if_neg (by simp only [ob', hids]; decide)]
                 refine RP_GP.2 (GP.imp (fun _ _ h => h) (fun j u hu => ?_) hq1.1)
                 rw [over_row (by rw [his]; omega) ((K.μ o).base + off * sizeT C e) (len * i.size) rfl j]
                 simp only [over, his]
                 rcases get_app hu with ⟨hj, hu⟩ | ⟨hj, hu⟩
                 ·rw [if_neg (by omega)]
                  have := ho2 j u hu
                  rw [hpe] at this
                  rw [← this]; congr 1; omega
                 ·have hlt := (List.getElem?_eq_some_iff.1 hu).1
                  rw [if_pos (by omega), ← hol]
                  exact hu)
             refine ⟨_, _, μ', hrun, i1, i2, ?_⟩
             exact fin (m := ⟨(K.μ o).blk, (K.μ o).base + off * sizeT C e, (K.μ o).cap - off⟩) rfl i0 ⟨_, cap, rfl, by simp only; omega, by omega, fun _ => rfl, fun _ hz0 => absurd hz0 hz', fun _ => rfl⟩ hqpm
           ·have hf := hcells i.size hse C.P K.w.drew hdrew
            have hfo : (Builtin.firstCells i.size len (.slice ad len cap)).run C.P K.w.drew = .ok olds.toArray K.w.drew := by
             by_cases hl0 : len = 0
             ·have : olds = [] := by rw [hl0] at hol; simpa using hol
              rw [hl0, this]
              exact firstCells_zero _ _ _ _
             ·have had := s3 (by have := hsh.1; omega)
              subst had
              refine run_firstCells_some (P := C.P) K.w.drew i.size len _ _ _ olds (by rw [hol, his]) (fun j u hu => ?_)
              rw [add_lit]
              have := ho2 j u hu
              show K.w.cell? _ = _
              simp only [World.cell?, c1]
              simp only [Option.isSome_none, Bool.false_eq_true, if_false]
              rw [← this]; congr 1; omega
            have hrun := run_append_new (w := K.w) (ty := ty) hu' hdx hxi hi hz h0 h1 ha0 ha1 (hlen C.P K.w) hf hfo (by omega) (by omega) (by rw [hib]; omega)
            have hgc := grownCap_ge K.w (len + plen ys) cap e
            obtain ⟨μ', i0, i1, i2⟩ := Inv.become (T := T) (w' := K.w.drew.alloc (.cells (olds.toArray ++ news.toArray ++ Builtin.zeroCells z.cells (grownCap K.w (len + plen ys) cap e - (len + plen ys))) e))
             hI hob ob' ⟨K.w.heap.size, 0, grownCap K.w (len + plen ys) cap e⟩ (by simp only [ob']; omega) (by simp) rfl rfl rfl (fun b hb _ => alloc_old K.w.drew _ hb)
             (fun _ => ⟨.inr (Nat.le_refl _), by simp⟩)
             (fun μ' hμ hE => by
              unfold ObjOk
              split
              ·rename_i heq; simp only [ob'] at heq; rw [heq] at hqpm; simp [isPm] at hqpm
              ·simp only [hμ]
               refine ⟨⟨by simp only [ob']; omega, fun c hc => ?_, fun h => by simp [ob', hrow] at h, fun h => absurd h hz'⟩, fun _ => ⟨_, e, alloc_new K.w.drew _, ?_, by simp only [ob']; omega, ?_⟩⟩
               ·obtain ⟨c0, _, h2, h3, h4⟩ := hoc c hc
                omega
               ·simp only [ob', Array.size_append, List.size_toArray, Nat.zero_add, size_zeroCells, hzs, hqe, hnl, hol]
                rw [← Nat.add_mul, ← Nat.add_mul]
                apply Nat.mul_le_mul_right
                omega
               ·refine PayOk.evo hE (Nat.le_refl _) ?_
                unfold PayOk
                rw [if_neg (by simp only [ob', hids]; decide)]
                refine RP_GP.2 ?_
                have := hq1.fore (Builtin.zeroCells z.cells (grownCap K.w (len + plen ys) cap e - (len + plen ys)))
                simpa using this)
            refine ⟨_, _, μ', hrun, i1, i2, ?_⟩
            exact fin (m := ⟨K.w.heap.size, 0, grownCap K.w (len + plen ys) cap e⟩) rfl i0 ⟨_, _, rfl, rfl, by omega, fun _ => rfl, fun _ hz0 => absurd hz0 hz', fun _ => rfl⟩ hqpm
        ·cases h
      ·cases h
    ·cases h
 ·cases h

end Go.AM

/- Rows of zeros; structs and arrays built; slice literals. -/
namespace Go.AM

theorem flatMap_rows {e : Nat} (he : 0 < e) : ∀ {l : List AV}, (∀ (j : Nat) (a : AV), l[j]? = some a → ∃ cs, a = .pc cs ∧ cs.length = e) →
  (l.flatMap fun | .pc r => r | _ => []).length = l.length * e ∧
  ∀ (k : Nat) (b : AV), (l.flatMap fun | .pc r => r | _ => [])[k]? = some b → ∃ cs, l[k / e]? = some (.pc cs) ∧ cs[k % e]? = some b
 | [], _ => by simp
 | a :: t, h => by
  obtain ⟨cs, rfl, hl⟩ := h 0 a rfl
  obtain ⟨h1, h2⟩ := flatMap_rows he (l := t) (fun j a ha => h (j + 1) a (by simpa using ha))
  refine ⟨by simp only [List.flatMap_cons, List.length_append, h1, hl, List.length_cons, Nat.add_mul]; omega, fun k b hb => ?_⟩
  simp only [List.flatMap_cons] at hb
  rcases get_app hb with ⟨hk, hb⟩ | ⟨hk, hb⟩
  ·rw [hl] at hk
   rw [Nat.div_eq_of_lt hk, Nat.mod_eq_of_lt hk]
   exact ⟨cs, rfl, hb⟩
  ·rw [hl] at hk hb
   obtain ⟨cs', h3, h4⟩ := h2 _ b hb
   have e1 : k / e = (k - e) / e + 1 := by
    rw [← Nat.add_div_right _ he, Nat.sub_add_cancel hk]
   have e2 : k % e = (k - e) % e := by
    rw [← Nat.add_mod_right (k - e) e, Nat.sub_add_cancel hk]
   rw [e1, e2]
   exact ⟨cs', by simpa using h3, h4⟩

theorem cellsOf_rel {K : Kx} {T : Nat → Nat → Prop} {p : AV} {r : Nat → Option Value} (h : PRel K T p r) : CRel K T (cellsOf p) r ∧ (cellsOf p).length = cellsLen p := by
 cases p <;> simp only [PRel, GP] at h <;> try (exact h.elim)
 case pn => exact ⟨fun j a ha => by simp [cellsOf] at ha, by simp [cellsOf, cellsLen, plen]⟩
 case pb l =>
  refine ⟨fun j a ha => ?_, by simp [cellsOf, cellsLen, plen, pesz]⟩
  simp only [cellsOf, List.getElem?_map] at ha
  cases hb : l[j]? with
  | none => rw [hb] at ha; cases ha
  | some b =>
   rw [hb] at ha
   simp only [Option.map_some, Option.some.injEq] at ha
   subst ha
   exact ⟨_, h j b hb, rfl, by simp [byteAV, SRel, RV]⟩
 case pi k l =>
  refine ⟨fun j a ha => ?_, by simp [cellsOf, cellsLen, plen, pesz]⟩
  simp only [cellsOf, List.getElem?_map] at ha
  cases hb : l[j]? with
  | none => rw [hb] at ha; cases ha
  | some b =>
   rw [hb] at ha
   simp only [Option.map_some, Option.some.injEq] at ha
   subst ha
   exact ⟨_, h j b hb, rfl, by simp [SRel, RV]⟩
 case pc l => exact ⟨h, by simp [cellsOf, cellsLen, plen, pesz]⟩
 case pr e l =>
  obtain ⟨h1, h2⟩ := flatMap_rows h.1 (fun j a ha => let ⟨cs, h3, h4, _⟩ := h.2 j a ha; ⟨cs, h3, h4⟩)
  refine ⟨fun j a ha => ?_, by simp only [cellsOf, cellsLen, plen, pesz]; exact h1⟩
  obtain ⟨cs, h3, h4⟩ := h2 j a ha
  obtain ⟨cs', h5, h6, h7⟩ := h.2 _ _ h3
  cases h5
  have := h7 _ _ h4
  rwa [Nat.mul_comm, Nat.div_add_mod] at this

theorem cellsAV_rel {K : Kx} {T : Nat → Nat → Prop} {a : AV} {v : Value} (h : VRel K T a v) (hs : scalars (cellsAV a) = true) :
  CRel K T (cellsAV a) (fun j => v.cells[j]?) ∧ v.cells.size = (cellsAV a).length := by
 cases a
 case agg p =>
  simp only [VRel, V1Rel] at h
  obtain ⟨cs, rfl, h1, h2⟩ := h
  obtain ⟨h3, h4⟩ := cellsOf_rel h2
  exact ⟨h3, h1.trans h4.symm⟩
 all_goals
  simp only [cellsAV, scalars, Bool.and_true] at hs
  have hs' := hs
  have h1 := SRel.of_v hs' h
  have h2 := SRel.cell hs' h1
  have h3 : v.cells = #[v] := by cases v <;> first | rfl | (simp [Value.oneCell'] at h2)
  rw [h3]
  refine ⟨fun j a ha => ?_, by simp [cellsAV]⟩
  simp only [cellsAV] at ha
  cases j with
  | zero => simp only [List.getElem?_cons_zero, Option.some.injEq] at ha; subst ha; exact ⟨v, rfl, h2, h1⟩
  | succ j => simp at ha

theorem nat_range_get {zero : Array Value} {n k : Nat} (hk : k < n) (hz : 0 < zero.size) : ((Array.range n).map (zero[· % zero.size]!))[k]? = zero[k % zero.size]? := by
 rw [Array.getElem?_map, Array.getElem?_range, if_pos hk]
 have : k % zero.size < zero.size := Nat.mod_lt _ hz
 simp [this]

theorem scalars_mem : ∀ {l : List AV}, scalars l = true → ∀ a ∈ l, scalar a = true
 | [], _, a, h => by simp at h
 | b :: t, hs, a, h => by
  simp only [scalars, Bool.and_eq_true] at hs
  rcases List.mem_cons.1 h with rfl | h
  ·exact hs.1
  ·exact scalars_mem hs.2 a h

theorem zeroRow_size {C : Ctx} {K : Kx} {T : Nat → Nat → Prop} {e : TypeId} {n : Nat} {p : AV} {z : Value} (hz : VRel K T (zeroAV C e) z) (h : zeroRow C e n = some p) : z.cells.size = sizeT C e := by
 unfold zeroRow at h
 simp only at h
 split at h
 ·rename_i hc
  exact (cellsAV_rel hz hc.2.1).2.trans hc.1
 ·cases h

/-- a row of n zero values -/
theorem zeroRow_rel {C : Ctx} {K : Kx} {T : Nat → Nat → Prop} {e : TypeId} {n : Nat} {p : AV} {z : Value} (hz : VRel K T (zeroAV C e) z) (h : zeroRow C e n = some p) (hpos : 0 < sizeT C e)
  {cs : Array Value} (hcs : ∀ k, k < n * sizeT C e → cs[k]? = z.cells[k % sizeT C e]?) :
  z.cells.size = sizeT C e ∧ plen p = n ∧ pesz p = sizeT C e ∧ isPm p = false ∧ RP K.w (NT K T 0) p (fun j => cs[j]?) := by
 unfold zeroRow at h
 simp only at h
 split at h
 ·rename_i hc
  obtain ⟨h1, h2, h3, h4⟩ := hc
  obtain ⟨h5, h6⟩ := cellsAV_rel hz h2
  have hid : ∀ a ∈ cellsAV (zeroAV C e), ∀ x, x ∉ ids a := fun a ha x hx => by
   have := idsL_mem ha x hx
   rw [List.isEmpty_iff] at h3
   rw [h3] at this
   simp at this
  have htg : ∀ a ∈ cellsAV (zeroAV C e), ∀ t ∈ tags a, ∀ x, T t x → T 0 x := fun a ha t ht x hx => by
   have := List.all_eq_true.1 h4 t (tagsL_mem ha t ht)
   rw [beq_iff_eq] at this
   rw [this] at hx
   exact hx
  refine ⟨h6.trans h1, ?_⟩
  have one : ∀ a, cellsAV (zeroAV C e) = [a] → sizeT C e = 1 ∧ ∃ u, z.cells[0]? = some u ∧ u.oneCell' = true ∧ RV K.w (NT K T 0) a u := by
   intro a ha
   rw [ha] at h1 h5 hid htg
   obtain ⟨u, h7, h8, h9⟩ := h5 0 a rfl
   exact ⟨h1.symm, u, h7, h8, h9.rv (fun x => hid a (by simp) x) (fun t ht => htg a (by simp) t ht)⟩
  have rep : ∀ {α : Type} {a b : α} {j : Nat}, (List.replicate n a)[j]? = some b → j < n ∧ b = a := by
   intro α a b j hj
   rw [List.getElem?_replicate] at hj
   split at hj
   ·exact ⟨by assumption, by simpa using hj.symm⟩
   ·cases hj
  split at h
  ·rename_i heq
   obtain ⟨h7, u, h8, h9, h10⟩ := one _ heq
   simp only [Option.some.injEq] at h
   subst h
   refine ⟨by simp [plen], by simp [pesz, h7], rfl, ?_⟩
   simp only [RP]
   intro j b hb
   obtain ⟨hj, rfl⟩ := rep hb
   rw [hcs j (by rw [h7]; omega), h7, Nat.mod_one, h8]
   simp only [RV] at h10
   rw [h10]; rfl
  ·rename_i k k' m _ _ heq
   obtain ⟨h7, u, h8, h9, h10⟩ := one _ heq
   split at h
   ·rename_i hk
    subst hk
    simp only [Option.some.injEq] at h
    subst h
    refine ⟨by simp [plen], by simp [pesz, h7], rfl, ?_⟩
    simp only [RP]
    intro j b hb
    obtain ⟨hj, rfl⟩ := rep hb
    rw [hcs j (by rw [h7]; omega), h7, Nat.mod_one, h8]
    simp only [RV] at h10
    rw [h10]
   ·cases h
  ·cases h
  iterate 2
   simp only [Option.some.injEq] at h
   subst h
   refine ⟨by simp [plen], by simp [pesz], rfl, RP_GP.2 ⟨hpos, fun j a ha => ?_⟩⟩
   obtain ⟨hj, rfl⟩ := rep ha
   refine ⟨_, rfl, h1, fun k b hb => ?_⟩
   have hk : k < sizeT C e := by have := (List.getElem?_eq_some_iff.1 hb).1; omega
   obtain ⟨u, h7, h8, h9⟩ := h5 k b hb
   have hm := List.mem_of_getElem? hb
   refine ⟨u, ?_, h8, h9.rv (fun x => hid b hm x) (fun t ht => htg b hm t ht)⟩
   have hle : j * sizeT C e + sizeT C e ≤ n * sizeT C e := by rw [← Nat.succ_mul]; exact Nat.mul_le_mul_right _ hj
   show cs[j * sizeT C e + k]? = some u
   rw [hcs (j * sizeT C e + k) (by omega), Nat.mul_comm, Nat.mul_add_mod, Nat.mod_eq_of_lt hk]
   exact h7
  ·obtain ⟨h7, u, h8, h9, h10⟩ := one _ (by assumption)
   simp only [Option.some.injEq] at h
   subst h
   refine ⟨by simp [plen], by simp [pesz, h7], rfl, RP_GP.2 fun j b hb => ?_⟩
   obtain ⟨hj, rfl⟩ := rep hb
   exact ⟨u, by rw [hcs j (by rw [h7]; omega), h7, Nat.mod_one, h8], h9, h10⟩
  ·cases h
 ·cases h

theorem wrap64 {n : Int} (h0 : 0 ≤ n) (h1 : n ≤ 9223372036854775807) : IntKind.i64.wrap n = n := by
 simp only [IntKind.wrap, IntKind.signed, IntKind.bits]
 simp
 omega

theorem makeSliceV_ok' {C : Ctx} {K : Kx} {T : Nat → Nat → Prop} (hI : Inv C K T) {t : TypeId} {l c r : AV} {vl vc : Value} {H' : Heap} (hl : VRel K T l vl) (hc : VRel K T c vc)
  (h : makeSliceV C K.H t l c = some (r, H')) :
  ∃ u w' μ', (Instr.makeSlice t vl vc).run C.P K.w = .ok u w' ∧ Inv C ⟨μ', H', w'⟩ T ∧ Evo T K.H.length K ⟨μ', H', w'⟩ ∧ VRel ⟨μ', H', w'⟩ T r u ∧ ∀ b, b < K.w.heap.size → w'.heap[b]? = K.w.heap[b]? := by
 unfold makeSliceV at h
 split at h
 ·rename_i e l c hu
  have hu' := und_some hu (by simp)
  simp only [VRel, V1Rel, SRel, RV] at hl hc
  subst hl; subst hc
  split at h
  ·rename_i hcd
   obtain ⟨h1, h2, h3, h4, h5⟩ := hcd
   cases hr : zeroRow C e l.toNat with
   | none => rw [hr] at h; cases h
   | some p =>
    rw [hr] at h
    simp only [Option.map_some, Option.some.injEq, Prod.mk.injEq] at h
    obtain ⟨rfl, rfl⟩ := h
    have hne : zeroAV C e ≠ .top := by
     intro h0
     unfold zeroRow at hr
     simp only [h0, cellsAV, scalars, scalar] at hr
     simp at hr
    obtain ⟨z, _, hzv, i, hi, hzi⟩ := zero_ok (K := K) (T := T) rfl hne
    have hsz : i.size = sizeT C e := by simp [sizeT, hi]
    have hby : i.bytes = bytesT C e := by simp [bytesT, hi]
    have hzs := zeroRow_size hzv hr
    have hbnd : (bytesT C e : Int) * c ≤ 281474976710656 := by omega
    have n1 : ¬ (c < 0) := by omega
    have n2 : ¬ (281474976710656 < (i.bytes : Int) * c) := by rw [hby]; omega
    have n3 : ¬ (l < 0) := by omega
    have n4 : ¬ (c < l) := by omega
    have wl := wrap64 h1 (by omega)
    have wc := wrap64 (show 0 ≤ c by omega) h3
    have n5 : ¬ (140737488355328 < c.toNat * i.bytes) := by
     have : (c.toNat : Int) * (bytesT C e : Int) ≤ 140737488355328 := by rw [Int.toNat_of_nonneg (by omega), Int.mul_comm]; exact h4
     rw [hby]; omega
    obtain ⟨cs, hcs, hcz, hrun⟩ : ∃ cs : Array Value, (∀ k, k < c.toNat * sizeT C e → cs[k]? = z.cells[k % sizeT C e]?) ∧ cs.size = c.toNat * sizeT C e ∧
      (Instr.makeSlice t (.int .i64 l) (.int .i64 c)).run C.P K.w = .ok (.slice (some ⟨K.w.heap.size, 0, none⟩) l.toNat c.toNat) (K.w.alloc (.cells cs e)) := by
     by_cases hn : c.toNat * i.size = 0
     ·refine ⟨#[], fun k hk => by rw [← hsz, hn] at hk; omega, by rw [← hsz, hn]; rfl, ?_⟩
      simp [Instr.makeSlice, run_und hu', asInt, asIntOf, typeInfo, hi, sizeOf, wl, wc, n1, n2, n3, n4, hn, newRow, askRoom, roomBytes]
      refine congrArg (fun x => K.w.alloc (Obj.cells x e)) (Array.eq_empty_of_size_eq_zero (by simp))
     ·refine ⟨(Array.range (c.toNat * i.size)).map (z.cells[· % z.cells.size]!), fun k hk => ?_, by simp [hsz], ?_⟩
      ·rw [nat_range_get (by rw [hsz]; exact hk) (by rw [hzs]; exact h5), hzs]
      ·simp [Instr.makeSlice, run_und hu', asInt, asIntOf, typeInfo, hi, sizeOf, zeroValue, hzi, wl, wc, n1, n2, n3, n4, hn, newRow, askRoom, roomBytes]
    have hle : l.toNat ≤ c.toNat := by omega
    have hle' := Nat.mul_le_mul_right (sizeT C e) hle
    obtain ⟨_, p1, p2, p3, p4⟩ := zeroRow_rel hzv hr h5 (cs := cs) (fun k hk => hcs k (by omega))
    obtain ⟨μ', i1, i2, i3⟩ := pushRow (T := T) (w' := K.w.alloc (.cells cs e)) (cs := cs) (E := e) (cap := c.toNat) hI (rowOf p (some c.toNat) 1) rfl rfl (fun h => by cases h) p3 (by simp) rfl rfl rfl
     (alloc_new _ _) (fun b hb => alloc_old _ _ hb) (by simp only [rowOf]; omega) (by simp only [rowOf]; rw [p2, hcz]; exact Nat.le_refl _) (by simp only [rowOf]; omega) (fun c' hc' => by simpa [rowOf] using hc'.symm)
     (by unfold PayOk; simp only [rowOf, Bool.false_eq_true, if_false]; exact p4)
    refine ⟨_, _, μ', hrun, i1, i2, ?_, fun b hb => alloc_old _ _ hb⟩
    simp only [rowOf, p1] at i3
    exact i3
  ·cases h
 ·cases h

theorem makeSliceV_ok {C : Ctx} {K : Kx} {T : Nat → Nat → Prop} (hI : Inv C K T) {t : TypeId} {l c r : AV} {vl vc : Value} {H' : Heap} (hl : VRel K T l vl) (hc : VRel K T c vc)
  (h : makeSliceV C K.H t l c = some (r, H')) :
  ∃ u w' μ', (Instr.makeSlice t vl vc).run C.P K.w = .ok u w' ∧ Inv C ⟨μ', H', w'⟩ T ∧ Evo T K.H.length K ⟨μ', H', w'⟩ ∧ VRel ⟨μ', H', w'⟩ T r u := by
 obtain ⟨u, w', μ', h1, h2, h3, h4, _⟩ := makeSliceV_ok' hI hl hc h
 exact ⟨u, w', μ', h1, h2, h3, h4⟩

end Go.AM

/- Structs and arrays built; slice literals. -/
namespace Go.AM

theorem foldl_set (off : Nat) : ∀ (l : List Value) (i : Nat) (cells : Array Value), off + i + l.length ≤ cells.size →
  ((l.zipIdx i).foldl (fun (cs : Array Value) (x : Value × Nat) => cs.setIfInBounds (off + x.2) x.1) cells).size = cells.size ∧
  ∀ k, ((l.zipIdx i).foldl (fun (cs : Array Value) (x : Value × Nat) => cs.setIfInBounds (off + x.2) x.1) cells)[k]? = if off + i ≤ k ∧ k < off + i + l.length then l[k - (off + i)]? else cells[k]?
 | [], i, cells, h => by
  refine ⟨rfl, fun k => ?_⟩
  rw [if_neg (by simp only [List.length_nil]; omega)]
  rfl
 | a :: t, i, cells, h => by
  simp only [List.length_cons] at h
  obtain ⟨h1, h2⟩ := foldl_set off t (i + 1) (cells.setIfInBounds (off + i) a) (by simp; omega)
  simp only [List.zipIdx_cons, List.foldl_cons]
  refine ⟨h1.trans (by simp), fun k => ?_⟩
  rw [h2 k]
  simp only [List.length_cons]
  by_cases hk : off + i = k
  ·subst hk
   rw [if_neg (by omega), if_pos (by omega)]
   rw [Array.getElem?_setIfInBounds]
   simp
   omega
  ·rw [Array.getElem?_setIfInBounds_ne hk]
   by_cases hk2 : off + (i + 1) ≤ k ∧ k < off + (i + 1) + t.length
   ·rw [if_pos hk2, if_pos (by omega)]
    rw [show k - (off + i) = (k - (off + (i + 1))) + 1 by omega]
    simp
   ·rw [if_neg hk2, if_neg (by omega)]

theorem fill_step {off : Nat} {v : Value} {cells : Array Value} (h : off + v.cells.size ≤ cells.size) :
  (v.cells.zipIdx.foldl (fun cs (x : Value × Nat) => cs.setIfInBounds (off + x.2) x.1) cells).size = cells.size ∧
  ∀ k, (v.cells.zipIdx.foldl (fun cs (x : Value × Nat) => cs.setIfInBounds (off + x.2) x.1) cells)[k]? = if off ≤ k ∧ k < off + v.cells.size then v.cells[k - off]? else cells[k]? := by
 rw [← Array.foldl_toList, Array.toList_zipIdx]
 have := foldl_set off v.cells.toList 0 cells (by simpa using h)
 simpa using this

/-- parts and where they go -/
def PlRel (K : Kx) (T : Nat → Nat → Prop) (place : Nat → Option (Nat × Nat)) : List (Nat × Nat × AV) → List (Nat × Value) → Prop
 | [], [] => True
 | (off, size, a) :: r, (i, v) :: s => place i = some (off, size) ∧ VRel K T a v ∧ PlRel K T place r s
 | _, _ => False

theorem fill_ok {K : Kx} {T : Nat → Nat → Prop} {place : Nat → Option (Nat × Nat)} : ∀ {ps : List (Nat × Nat × AV)} {vs : List (Nat × Value)} {c c' : List AV} {cells : Array Value},
  PlRel K T place ps vs → CRel K T c (fun j => cells[j]?) → c.length = cells.size → fillCells c ps = some c' →
  ∃ cells' : Array Value, Instr.fill place cells vs = some cells' ∧ CRel K T c' (fun j => cells'[j]?) ∧ c'.length = cells'.size
 | [], [], c, c', cells, _, hc, hl, h => by
  simp only [fillCells, Option.some.injEq] at h
  subst h
  exact ⟨cells, rfl, hc, hl⟩
 | (off, size, a) :: r, (i, v) :: s, c, c', cells, hp, hc, hl, h => by
  obtain ⟨h1, h2, h3⟩ := hp
  simp only [fillCells] at h
  split at h
  ·rename_i hd
   obtain ⟨e1, e2, e3⟩ := hd
   obtain ⟨h4, h5⟩ := cellsAV_rel h2 e3
   have hle : off + v.cells.size ≤ cells.size := by omega
   obtain ⟨h6, h7⟩ := fill_step hle
   have hspl : off + (cellsAV a).length ≤ c.length := by omega
   obtain ⟨cells', h8, h9, h10⟩ := fill_ok (c := splice c off (cellsAV a)) h3 (cells := v.cells.zipIdx.foldl (fun cs (x : Value × Nat) => cs.setIfInBounds (off + x.2) x.1) cells) (fun j b hb => by
    simp only
    rw [h7 j, h5]
    rw [splice_get hspl] at hb
    split at hb
    ·rename_i hj
     rw [if_pos hj]
     exact h4 _ b hb
    ·rename_i hj
     rw [if_neg hj]
     exact hc _ b hb) (by rw [splice_len hspl, h6]; exact hl) h
   refine ⟨cells', ?_, h9, h10⟩
   simp only [Instr.fill, h1]
   rw [if_neg (by simp; omega)]
   exact h8
  ·cases h
 | [], _ :: _, _, _, _, hp, _, _, _ => by simp [PlRel] at hp
 | _ :: _, [], _, _, _, hp, _, _, _ => by simp [PlRel] at hp

/-- parts -/
def PartsRel (K : Kx) (T : Nat → Nat → Prop) : List (Nat × AV) → List (Nat × Value) → Prop
 | [], [] => True
 | (i, a) :: r, (j, v) :: s => i = j ∧ VRel K T a v ∧ PartsRel K T r s
 | _, _ => False

theorem known_some {C : Ctx} {t : TypeId} (h : known C t = true) : ∃ i, C.P.info? t = some i ∧ i.size = sizeT C t := by
 unfold known at h
 obtain ⟨i, hi⟩ := Option.isSome_iff_exists.1 h
 exact ⟨i, hi, by simp [sizeT, hi]⟩

theorem run_known {C : Ctx} {w : World} {t : TypeId} (h : known C t = true) : (sizeOf t).run C.P w = .ok (sizeT C t) w := by
 obtain ⟨i, hi, hs⟩ := known_some h
 simp [sizeOf, typeInfo, hi, hs]

theorem run_places {C : Ctx} {w : World} : ∀ (fs : List Field), fs.all (fun f => known C f.type) = true →
  (fs.mapM fun (f : Field) => do pure (f.offset, ← sizeOf f.type)).run C.P w = .ok (fs.map fun f => (f.offset, sizeT C f.type)) w
 | [], _ => by simp [List.mapM_nil]
 | f :: r, h => by
  simp only [List.all_cons, Bool.and_eq_true] at h
  have hs := run_known (w := w) h.1
  have ih := run_places (w := w) r h.2
  simp only [List.mapM_cons, Sem.run_bind, hs, ih, Result.andThen_ok, Sem.run_pure, List.map_cons]

theorem places_rel {C : Ctx} {K : Kx} {T : Nat → Nat → Prop} {fs : List Field} : ∀ {parts : List (Nat × AV)} {vs : List (Nat × Value)} {ps : List (Nat × Nat × AV)}, PartsRel K T parts vs → placesS C fs parts = some ps →
  PlRel K T ((fs.map fun f => (f.offset, sizeT C f.type)).toArray[·]?) ps vs
 | [], [], ps, _, h => by simp only [placesS, Option.some.injEq] at h; subst h; trivial
 | (i, a) :: r, (j, v) :: s, ps, hp, h => by
  obtain ⟨rfl, h1, h2⟩ := hp
  simp only [placesS] at h
  split at h
  ·rename_i f hf
   cases hr : placesS C fs r with
   | none => rw [hr] at h; cases h
   | some q =>
    rw [hr] at h
    simp only [Option.map_some, Option.some.injEq] at h
    subst h
    exact ⟨by simp [hf], h1, places_rel h2 hr⟩
  ·cases h
 | [], _ :: _, _, hp, _ => by simp [PartsRel] at hp
 | _ :: _, [], _, hp, _ => by simp [PartsRel] at hp

theorem places_arr {K : Kx} {T : Nat → Nat → Prop} {n : Nat} : ∀ {parts : List (Nat × AV)} {vs : List (Nat × Value)}, PartsRel K T parts vs →
  PlRel K T (fun i => some (i * n, n)) (parts.map fun (i, v) => (i * n, n, v)) vs
 | [], [], _ => by trivial
 | (i, a) :: r, (j, v) :: s, hp => by
  obtain ⟨rfl, h1, h2⟩ := hp
  exact ⟨rfl, h1, places_arr h2⟩
 | [], _ :: _, hp => by simp [PartsRel] at hp
 | _ :: _, [], hp => by simp [PartsRel] at hp

theorem buildV_ok {C : Ctx} {K : Kx} {T : Nat → Nat → Prop} {t : TypeId} {parts : List (Nat × AV)} {vs : Array (Nat × Value)} {x : AV} (hp : PartsRel K T parts vs.toList) (h : buildV C t parts = some x) :
  ∃ u, (Instr.build t vs).run C.P K.w = .ok u K.w ∧ VRel K T x u := by
 unfold buildV at h
 split at h
 ·rename_i z hz
  obtain ⟨zv, hzr, hzv, _⟩ := zero_ok (K := K) (T := T) (p := .agg z) hz (by simp)
  split at h
  ·rename_i hsc
   obtain ⟨hc1, hc2⟩ := cellsAV_rel hzv hsc
   have fin : ∀ {c : List AV} {cells : Array Value}, CRel K T c (fun j => cells[j]?) → c.length = cells.size → (mkAgg C t c).map AV.agg = some x → VRel K T x (.agg cells) := by
    intro c cells h1 h2 h3
    cases hm : mkAgg C t c with
    | none => rw [hm] at h3; cases h3
    | some p =>
     rw [hm] at h3
     simp only [Option.map_some, Option.some.injEq] at h3
     subst h3
     obtain ⟨h4, h5⟩ := mkAgg_rel h1 hm
     simp only [VRel, V1Rel]
     exact ⟨cells, rfl, by omega, h4⟩
   split at h
   ·rename_i fs hu
    have hu' := und_some hu (by simp)
    split at h
    ·rename_i hk
     cases hq : placesS C fs.toList parts with
     | none => rw [hq] at h; cases h
     | some ps =>
      rw [hq] at h
      simp only [Option.bind_some] at h
      cases hf : fillCells (cellsOf z) ps with
      | none => rw [hf] at h; cases h
      | some c =>
       rw [hf] at h
       simp only [Option.bind_some] at h
       obtain ⟨cells, h1, h2, h3⟩ := fill_ok (places_rel hp hq) hc1 hc2.symm hf
       refine ⟨_, ?_, fin h2 h3 h⟩
       have hpl := run_places (C := C) (w := K.w) fs.toList hk
       simp only [Instr.build, Sem.run_bind, hzr, Result.andThen_ok, run_und hu', Array.mapM_eq_mapM_toList, Sem.run_map, hpl]
       have h1' : Instr.fill (fun x => (List.map (fun f => (f.offset, sizeT C f.type)) fs.toList).toArray[x]?) zv.cells vs.toList = some cells := h1
       simp only [h1', Sem.run_pure]
    ·cases h
   ·rename_i n e hu
    have hu' := und_some hu (by simp)
    split at h
    ·rename_i hk
     obtain ⟨i, hi, his⟩ := known_some hk
     cases hf : fillCells (cellsOf z) (parts.map fun (i, v) => (i * sizeT C e, sizeT C e, v)) with
     | none => rw [hf] at h; cases h
     | some c =>
      rw [hf] at h
      simp only [Option.bind_some] at h
      obtain ⟨cells, h1, h2, h3⟩ := fill_ok (places_arr hp) hc1 hc2.symm hf
      refine ⟨_, ?_, fin h2 h3 h⟩
      simp [Instr.build, hzr, run_und hu', sizeOf, typeInfo, hi, his, h1]
    ·cases h
   ·cases h
  ·cases h
 ·cases h

theorem V1Rel.v {K : Kx} {T : Nat → Nat → Prop} {a : AV} {v : Value} (h : V1Rel K T a v) : VRel K T a v := by
 cases a <;> first | exact h | (simp [V1Rel, SRel, RV] at h; done)

theorem VRel.v1 {K : Kx} {T : Nat → Nat → Prop} {a : AV} {v : Value} (h : VRel K T a v) (hs : scalars (cellsAV a) = true) : V1Rel K T a v := by
 cases a <;> first | exact h | (simp [cellsAV, scalars, scalar] at hs; done)

/-- elements of es cells each, side by side -/
def ERow (K : Kx) (T : Nat → Nat → Prop) (es : Nat) (l : List AV) (r : Nat → Value) (cells : Array Value) : Prop :=
 cells.size = l.length * es ∧ ∀ (j : Nat) (a : AV), l[j]? = some a → V1Rel K T a (r j) ∧ (r j).cells.size = es ∧ ∀ k, k < es → cells[j * es + k]? = (r j).cells[k]?

theorem setParts_ok {K : Kx} {T : Nat → Nat → Prop} {es : Nat} : ∀ {parts : List (Nat × AV)} {vs : List (Nat × Value)} {l l' : List AV} {r : Nat → Value} {cells : Array Value},
  PartsRel K T parts vs → ERow K T es l r cells → setParts es l parts = some l' →
  ∃ (r' : Nat → Value) (cells' : Array Value), Instr.fill (fun i => some (i * es, es)) cells vs = some cells' ∧ ERow K T es l' r' cells' ∧ l'.length = l.length
 | [], [], l, l', r, cells, _, hE, h => by
  simp only [setParts, Option.some.injEq] at h
  subst h
  exact ⟨r, cells, rfl, hE, rfl⟩
 | (i, a) :: ps, (j, v) :: s, l, l', r, cells, hp, hE, h => by
  obtain ⟨rfl, h1, h2⟩ := hp
  simp only [setParts] at h
  split at h
  ·rename_i hc
   obtain ⟨c1, c2, c3⟩ := hc
   obtain ⟨h3, h4⟩ := cellsAV_rel h1 c3
   have hle : i * es + es ≤ l.length * es := by rw [← Nat.succ_mul]; exact Nat.mul_le_mul_right _ c1
   have hv : v.cells.size = es := h4.trans c2
   obtain ⟨h5, h6⟩ := fill_step (off := i * es) (v := v) (cells := cells) (by rw [hv, hE.1]; exact hle)
   obtain ⟨r', cells', h7, h8, h9⟩ := setParts_ok (l := l.set i a) (r := fun k => if k = i then v else r k) (cells := v.cells.zipIdx.foldl (fun cs (x : Value × Nat) => cs.setIfInBounds (i * es + x.2) x.1) cells) h2 (by
    refine ⟨by rw [h5, hE.1]; simp, fun j b hb => ?_⟩
    rcases get_set hb with ⟨e, rfl, hj⟩ | ⟨e, hb⟩
    ·subst e
     simp only [if_true]
     refine ⟨h1.v1 c3, hv, fun k hk => ?_⟩
     rw [h6, if_pos (by omega)]
     congr 1; omega
    ·simp only [if_neg (Ne.symm e)]
     obtain ⟨e1, e2, e3⟩ := hE.2 j b hb
     refine ⟨e1, e2, fun k hk => ?_⟩
     rw [h6, if_neg, e3 k hk]
     rintro ⟨g1, g2⟩
     rcases Nat.lt_or_gt_of_ne e with e | e
     ·have := Nat.mul_le_mul_right es (show i + 1 ≤ j from e)
      rw [Nat.add_mul] at this
      omega
     ·have := Nat.mul_le_mul_right es (show j + 1 ≤ i from e)
      rw [Nat.add_mul] at this
      omega) h
   refine ⟨r', cells', ?_, h8, h9.trans (by simp)⟩
   have hsz := hE.1
   simp only [Instr.fill]
   rw [if_neg (by simp; omega)]
   exact h7
  ·cases h
 | [], _ :: _, _, _, _, _, hp, _, _ => by simp [PartsRel] at hp
 | _ :: _, [], _, _, _, _, hp, _, _ => by simp [PartsRel] at hp

theorem freezePs_ok {C : Ctx} {T : Nat → Nat → Prop} : ∀ {l l' : List AV} {K : Kx} {H' : Heap} {r : Nat → Value}, Inv C K T → (∀ (j : Nat) (a : AV), l[j]? = some a → V1Rel K T a (r j)) → freezePs K.H l = some (l', H') →
  Inv C ⟨K.μ, H', K.w⟩ T ∧ Evo T K.H.length K ⟨K.μ, H', K.w⟩ ∧ H'.length = K.H.length ∧ l'.length = l.length ∧ ∀ (j : Nat) (a : AV), l'[j]? = some a → V1Rel ⟨K.μ, H', K.w⟩ T a (r j)
 | [], l', K, H', r, hI, hr, h => by
  simp only [freezePs, Option.some.injEq, Prod.mk.injEq] at h
  obtain ⟨rfl, rfl⟩ := h
  exact ⟨hI, Evo.refl T K (Nat.le_refl _), rfl, rfl, by simp⟩
 | a :: t, l', K, H', r, hI, hr, h => by
  simp only [freezePs] at h
  split at h
  ·rename_i a' H1 h1
   obtain ⟨i1, e1, n1, s1⟩ := freezeP_ok hI (hr 0 a rfl) h1
   split at h
   ·rename_i t' H2 h2
    simp only [Option.some.injEq, Prod.mk.injEq] at h
    obtain ⟨rfl, rfl⟩ := h
    obtain ⟨i2, e2, n2, m2, s2⟩ := freezePs_ok (K := ⟨K.μ, H1, K.w⟩) (r := fun j => r (j + 1)) i1 (fun j b hb => V1Rel.evo e1 (Nat.le_refl _) (hr (j + 1) b (by simpa using hb))) h2
    refine ⟨i2, Evo.trans e1 e2 (by show K.H.length ≤ H1.length; omega), n2.trans n1, by simp [m2], fun j b hb => ?_⟩
    cases j with
    | zero => simp at hb; subst hb; exact V1Rel.evo e2 (Nat.le_refl _) s1
    | succ j => exact s2 j b (by simpa using hb)
   ·cases h
  ·cases h

theorem idsL_ints (k : IntKind) : ∀ l : List Int, idsL (l.map (.int k)) = []
 | [] => rfl
 | _ :: r => by simp [idsL, ids, idsL_ints k r]

theorem tagsL_ints (k : IntKind) : ∀ l : List Int, tagsL (l.map (.int k)) = []
 | [] => rfl
 | _ :: r => by simp [tagsL, tags, tagsL_ints k r]

theorem idsL_bytes' : ∀ l : List UInt8, idsL (l.map byteAV) = []
 | [] => rfl
 | _ :: r => by simp [idsL, ids, byteAV, idsL_bytes' r]

theorem tagsL_bytes' : ∀ l : List UInt8, tagsL (l.map byteAV) = []
 | [] => rfl
 | _ :: r => by simp [tagsL, tags, byteAV, tagsL_bytes' r]

theorem rowCells_ids {p : AV} {r : List AV} (h : rowCells p = some r) : idsL r = ids p ∧ tagsL r = tags p := by
 cases p <;> simp only [rowCells, reduceCtorEq, Option.some.injEq] at h <;> subst h
 case pb l => exact ⟨idsL_bytes' l, tagsL_bytes' l⟩
 case pi k l => exact ⟨idsL_ints k l, tagsL_ints k l⟩
 case pc l => exact ⟨rfl, rfl⟩

theorem rowCells_rel {K : Kx} {T : Nat → Nat → Prop} {p : AV} {r : List AV} {f : Nat → Option Value} (h : rowCells p = some r) (hp : PRel K T p f) : PRel K T (.pc r) f := by
 cases p <;> simp only [rowCells, reduceCtorEq, Option.some.injEq] at h <;> subst h <;> simp only [PRel, GP] at hp ⊢
 case pb l =>
  intro j a ha
  rw [List.getElem?_map] at ha
  cases hb : l[j]? with
  | none => rw [hb] at ha; cases ha
  | some b =>
   rw [hb] at ha
   simp only [Option.map_some, Option.some.injEq] at ha
   subst ha
   exact ⟨_, hp j b hb, rfl, SRel.int_self _ _ _ _⟩
 case pi k l =>
  intro j a ha
  rw [List.getElem?_map] at ha
  cases hb : l[j]? with
  | none => rw [hb] at ha; cases ha
  | some b =>
   rw [hb] at ha
   simp only [Option.map_some, Option.some.injEq] at ha
   subst ha
   exact ⟨_, hp j b hb, rfl, SRel.int_self _ _ _ _⟩
 case pc l => exact hp

theorem asRows_some {e : Nat} : ∀ {l rows : List AV}, asRows e l = some rows → rows.length = l.length ∧ idsL rows = idsL l ∧ tagsL rows = tagsL l ∧
  ∀ (j : Nat) (a : AV), rows[j]? = some a → ∃ r p, a = .pc r ∧ r.length = e ∧ scalars r = true ∧ l[j]? = some (.agg p) ∧ rowCells p = some r
 | [], rows, h => by simp only [asRows, Option.some.injEq] at h; subst h; simp
 | a :: t, rows, h => by
  unfold asRows at h
  split at h
  ·rename_i heq; simp at heq
  ·rename_i p t' heq
   simp only [List.cons.injEq] at heq
   obtain ⟨rfl, rfl⟩ := heq
   split at h
   ·rename_i r hrc
    split at h
    ·rename_i hc
     cases hr : asRows e t with
     | none => rw [hr] at h; cases h
     | some q =>
      rw [hr] at h
      simp only [Option.map_some, Option.some.injEq] at h
      subst h
      obtain ⟨h1, h2, h3, h4⟩ := asRows_some hr
      obtain ⟨i1, i2⟩ := rowCells_ids hrc
      refine ⟨by simp [h1], by simp [idsL, ids, h2, i1], by simp [tagsL, tags, h3, i2], fun j b hb => ?_⟩
      cases j with
      | zero => simp at hb; subst hb; exact ⟨r, p, rfl, hc.1, hc.2, rfl, hrc⟩
      | succ j => simpa using h4 j b (by simpa using hb)
    ·cases h
   ·cases h
  ·cases h

theorem cells_one {K : Kx} {T : Nat → Nat → Prop} {a : AV} {v : Value} (h : V1Rel K T a v) (hs : scalar a = true) : v.cells = #[v] ∧ v.oneCell' = true ∧ SRel K T a v := by
 have h1 := SRel.of_v hs h.v
 have h2 := SRel.cell hs h1
 refine ⟨?_, h2, h1⟩
 cases v <;> first | rfl | (simp [Value.oneCell'] at h2)

theorem ERow.one {K : Kx} {T : Nat → Nat → Prop} {es : Nat} {l : List AV} {r : Nat → Value} {cells : Array Value} (hE : ERow K T es l r cells) {j : Nat} {a : AV} (ha : l[j]? = some a) (hs : scalar a = true) :
  es = 1 ∧ ∃ v, cells[j]? = some v ∧ v.oneCell' = true ∧ SRel K T a v := by
 obtain ⟨h1, h2, h3⟩ := hE.2 j a ha
 obtain ⟨h4, h5, h6⟩ := cells_one h1 hs
 have he : es = 1 := by rw [← h2, h4]; rfl
 subst he
 refine ⟨rfl, r j, ?_, h5, h6⟩
 have := h3 0 (by omega)
 rw [h4] at this
 simpa using this

theorem mkRow_rel {C : Ctx} {K : Kx} {T : Nat → Nat → Prop} {e : TypeId} {l : List AV} {r : Nat → Value} {cells : Array Value} {p : AV} (hE : ERow K T (sizeT C e) l r cells) (hpos : 0 < sizeT C e) (h : mkRow C e l = some p) :
  PRel K T p (fun j => cells[j]?) ∧ plen p = l.length ∧ plen p * pesz p ≤ cells.size ∧ (∀ x ∈ ids p, x ∈ idsL l) ∧ (∀ x ∈ tags p, x ∈ tagsL l) := by
 have flat : ∀ {p : AV}, plen p = l.length → pesz p = 1 → (∀ (j : Nat) (a : AV), l[j]? = some a → sizeT C e = 1) → plen p * pesz p ≤ cells.size := by
  intro p h1 h2 h3
  rw [h1, h2, hE.1]
  cases l with
  | nil => simp
  | cons a t => rw [h3 0 a rfl]; exact Nat.le_refl _
 unfold mkRow at h
 have ints : ∀ {k : IntKind}, (asInts k l).map (AV.pi k) = some p → PRel K T p (fun j => cells[j]?) ∧ plen p = l.length ∧ plen p * pesz p ≤ cells.size ∧ (∀ x ∈ ids p, x ∈ idsL l) ∧ (∀ x ∈ tags p, x ∈ tagsL l) := by
  intro k h
  cases hb : asInts k l with
  | none => rw [hb] at h; cases h
  | some bs =>
   rw [hb] at h
   simp only [Option.map_some, Option.some.injEq] at h
   subst h
   obtain ⟨h1, h2⟩ := asInts_some hb
   refine ⟨fun j b hj => ?_, by simpa [plen] using h1, flat (by simpa [plen] using h1) rfl (fun j a ha => ?_), by simp [ids], by simp [tags]⟩
   ·obtain ⟨_, v, h4, _, h6⟩ := hE.one (h2 j b hj) rfl
    simp only [SRel, RV] at h6
    show cells[j]? = _
    rw [h4, h6]
   ·have hj := (List.getElem?_eq_some_iff.1 ha).1
    exact (hE.one (h2 j bs[j] (List.getElem?_eq_getElem (by omega))) rfl).1
 split at h
 ·cases hb : asBytes l with
  | none => rw [hb] at h; cases h
  | some bs =>
   rw [hb] at h
   simp only [Option.map_some, Option.some.injEq] at h
   subst h
   obtain ⟨h1, h2⟩ := asBytes_some hb
   refine ⟨fun j b hj => ?_, by simpa [plen] using h1, flat (by simpa [plen] using h1) rfl (fun j a ha => ?_), by simp [ids], by simp [tags]⟩
   ·obtain ⟨_, v, h4, _, h6⟩ := hE.one (h2 j b hj) rfl
    simp only [SRel, RV] at h6
    show cells[j]? = _
    rw [h4, h6]
   ·have hj := (List.getElem?_eq_some_iff.1 ha).1
    exact (hE.one (h2 j bs[j] (List.getElem?_eq_getElem (by omega))) rfl).1
 ·exact ints h
 iterate 2
  cases hb : asRows (sizeT C e) l with
  | none => rw [hb] at h; cases h
  | some rows =>
   rw [hb] at h
   simp only [Option.map_some, Option.some.injEq] at h
   subst h
   obtain ⟨h1, h2, h3, h4⟩ := asRows_some hb
   refine ⟨⟨hpos, fun j a ha => ?_⟩, by simpa [plen] using h1, by simp only [plen, pesz]; rw [h1, hE.1]; exact Nat.le_refl _, by simp [ids, h2], by simp [tags, h3]⟩
   obtain ⟨cs, p, rfl, h5, h6, h7, hrc⟩ := h4 j a ha
   obtain ⟨g1, g2, g3⟩ := hE.2 j _ h7
   simp only [V1Rel] at g1
   obtain ⟨as, g4, g5, g6'⟩ := g1
   have g6 := rowCells_rel hrc g6'
   simp only [PRel, GP] at g6
   refine ⟨cs, rfl, h5, fun k b hb => ?_⟩
   obtain ⟨v, g7, g8, g9⟩ := g6 k b hb
   refine ⟨v, ?_, g8, g9⟩
   have hk : k < sizeT C e := by have := (List.getElem?_eq_some_iff.1 hb).1; omega
   show cells[j * sizeT C e + k]? = some v
   rw [g3 k hk, g4]
   exact g7
 ·split at h
  ·rename_i hs
   simp only [Option.some.injEq] at h
   subst h
   refine ⟨fun j a ha => (hE.one ha (scalars_mem hs a (List.mem_of_getElem? ha))).2, rfl, flat rfl rfl (fun j a ha => (hE.one ha (scalars_mem hs a (List.mem_of_getElem? ha))).1), by simp [ids], by simp [tags]⟩
  ·cases h

theorem litRow_ok {C : Ctx} {K : Kx} {T : Nat → Nat → Prop} (hI : Inv C K T) {e : TypeId} {l : List AV} {r : Nat → Value} {cells : Array Value} {x : AV} (hE : ERow K T (sizeT C e) l r cells) (hpos : 0 < sizeT C e) (h : litRow C e l = some x)
  (hid : idsL l = []) : Inv C ⟨K.μ, K.H, K.w.alloc (.cells cells e)⟩ T ∧ Evo T K.H.length K ⟨K.μ, K.H, K.w.alloc (.cells cells e)⟩ ∧
   VRel ⟨K.μ, K.H, K.w.alloc (.cells cells e)⟩ T x (.slice (some ⟨K.w.heap.size, 0, none⟩) l.length l.length) := by
 unfold litRow at h
 split at h
 ·rename_i p tg hp ht
  simp only [Option.some.injEq] at h
  subst h
  obtain ⟨h1, h2, h3, h4, h5⟩ := mkRow_rel hE hpos hp
  obtain ⟨i1, e1⟩ := Inv.world (w' := K.w.alloc (.cells cells e)) hI (by simp) rfl rfl rfl (fun b hb => .inl (alloc_old _ _ hb))
  refine ⟨i1, e1, ?_⟩
  simp only [VRel, V1Rel, SRel, RV]
  refine ⟨_, _, by rw [h2], ⟨by omega, fun h => absurd h (by decide), fun _ => rfl, fun _ => h2.symm⟩, fun a ha hn => ?_⟩
  simp only [Option.some.injEq] at ha
  subst ha
  have hj := joinTags_ok hI.mono ht
  have hr : GP (RV K.w (NT K T tg)) p (fun j => cells[j]?) := GP.rv h1 (fun x hx => by have := h4 x hx; rw [hid] at this; simp at this) (fun t ht' => hj t (h5 t ht'))
  refine ⟨rfl, ⟨hI.mono _ _ (hI.new _ (Nat.le_refl _)), ?_, by simp⟩, ?_⟩
  ·rintro ⟨o, ob, ho, hR, hb⟩
   have := (hI.own _ ⟨o, ob, ho, hR, hb⟩).1
   exact absurd this (Nat.lt_irrefl _)
  ·refine RP_mono (fun b hb => NT.evo e1 hb) p _ _ (fun j u hu => ?_) (RP_GP.2 hr)
   simp only [World.cell?, alloc_new, Nat.zero_add]
   simpa using hu
 ·cases h

theorem run_buildSlice {C : Ctx} {w : World} {t e : TypeId} (hu : C.P.underlying t = some (.slice e)) {n : Nat} {vs : Array (Nat × Value)} {z : Value} {cells' : Array Value} (hz : (zeroValue e).run C.P w = .ok z w) (hpos : 0 < sizeT C e)
  (hle : n * sizeT C e ≤ 16777216) (hf : Instr.fill (fun i => some (i * sizeT C e, sizeT C e)) ((Array.range (n * sizeT C e)).map ((if n * sizeT C e = 0 then #[] else z.cells)[· % (if n * sizeT C e = 0 then #[] else z.cells).size]!)) vs.toList = some cells') :
  (Instr.buildSlice t n vs).run C.P w = .ok (.slice (some ⟨w.heap.size, 0, none⟩) n n) (w.alloc (.cells cells' e)) := by
 have hle' : ¬ (16777216 < n * sizeT C e) := by omega
 by_cases hn : n * sizeT C e = 0
 ·have e0 : ∀ f : Nat → Value, (Array.range 0).map f = #[] := fun f => Array.eq_empty_of_size_eq_zero (by simp)
  simp only [hn, e0] at hf
  simp [Instr.buildSlice, run_und hu, run_sizeOf_pos (show sizeT C e ≠ 0 by omega), hn, newRow, e0, hf]
 ·simp only [hn, if_false] at hf
  have hn2 : ¬ (n = 0 ∨ sizeT C e = 0) := fun h => hn (by rcases h with h | h <;> simp [h])
  simp only [Instr.buildSlice, Sem.run_bind, run_und hu, run_sizeOf_pos (show sizeT C e ≠ 0 by omega), Result.andThen_ok]
  rw [if_neg (by omega)]
  simp only [hn, if_false, Sem.run_bind, Sem.run_pure, hz, Result.andThen_ok, hf, newRow]
  simp

theorem buildSliceV_ok {C : Ctx} {K : Kx} {T : Nat → Nat → Prop} (hI : Inv C K T) {t : TypeId} {n : Nat} {parts : List (Nat × AV)} {vs : Array (Nat × Value)} {x : AV} {H' : Heap} (hp : PartsRel K T parts vs.toList)
  (h : buildSliceV C K.H t n parts = some (x, H')) :
  ∃ u w' μ', (Instr.buildSlice t n vs).run C.P K.w = .ok u w' ∧ Inv C ⟨μ', H', w'⟩ T ∧ Evo T K.H.length K ⟨μ', H', w'⟩ ∧ VRel ⟨μ', H', w'⟩ T x u := by
 unfold buildSliceV at h
 split at h
 ·rename_i e hu
  have hu' := und_some hu (by simp)
  split at h
  ·rename_i hc
   obtain ⟨hle, hpos, hzl, hzs⟩ := hc
   have hne : zeroAV C e ≠ .top := by
    intro h0
    rw [h0] at hzs
    simp [cellsAV, scalars, scalar] at hzs
   obtain ⟨z, hz, hzv, _⟩ := zero_ok (K := K) (T := T) rfl hne
   obtain ⟨_, hz2⟩ := cellsAV_rel hzv hzs
   have hzsz : z.cells.size = sizeT C e := hz2.trans hzl
   split at h
   ·cases h
   ·rename_i l hsp
    have hE0 : ERow K T (sizeT C e) (List.replicate n (zeroAV C e)) (fun _ => z) ((Array.range (n * sizeT C e)).map ((if n * sizeT C e = 0 then #[] else z.cells)[· % (if n * sizeT C e = 0 then #[] else z.cells).size]!)) := by
     refine ⟨by simp, fun j a ha => ?_⟩
     have hj : j < n := by have := (List.getElem?_eq_some_iff.1 ha).1; simpa using this
     have ha' : a = zeroAV C e := by
      rw [List.getElem?_replicate, if_pos hj] at ha
      simpa using ha.symm
     subst ha'
     refine ⟨hzv.v1 hzs, hzsz, fun k hk => ?_⟩
     have hlt : j * sizeT C e + k < n * sizeT C e := by
      have := Nat.mul_le_mul_right (sizeT C e) (show j + 1 ≤ n from hj)
      rw [Nat.add_mul] at this
      omega
     rw [if_neg (by omega), nat_range_get hlt (by omega), hzsz, Nat.mul_comm, Nat.mul_add_mod, Nat.mod_eq_of_lt hk]
    obtain ⟨r, cells, hf, hE, hlen⟩ := setParts_ok hp hE0 hsp
    have hlen' : l.length = n := by simpa using hlen
    have hrun := run_buildSlice hu' hz hpos hle hf
    split at h
    ·rename_i hid
     cases hl : litRow C e l with
     | none => rw [hl] at h; cases h
     | some v =>
      rw [hl] at h
      simp only [Option.map_some, Option.some.injEq, Prod.mk.injEq] at h
      obtain ⟨rfl, rfl⟩ := h
      obtain ⟨i1, e1, v1⟩ := litRow_ok hI hE hpos hl (List.isEmpty_iff.1 hid)
      rw [hlen'] at v1
      exact ⟨_, _, _, hrun, i1, e1, v1⟩
    ·split at h
     ·cases h
     ·split at h
      ·cases h
      ·rename_i l' H1 hfr
       obtain ⟨i2, e2, n2, m2, s2⟩ := freezePs_ok (r := r) hI (fun j a ha => (hE.2 j a ha).1) hfr
       have hE2 : ERow ⟨K.μ, H1, K.w⟩ T (sizeT C e) l' r cells := by
        refine ⟨by rw [hE.1, m2], fun j a ha => ⟨s2 j a ha, ?_⟩⟩
        have hj := (List.getElem?_eq_some_iff.1 ha).1
        exact (hE.2 j l[j] (List.getElem?_eq_getElem (by omega))).2
       split at h
       ·rename_i hid
        cases hl : litRow C e l' with
        | none => rw [hl] at h; cases h
        | some v =>
         rw [hl] at h
         simp only [Option.map_some, Option.some.injEq, Prod.mk.injEq] at h
         obtain ⟨rfl, rfl⟩ := h
         obtain ⟨i1, e1, v1⟩ := litRow_ok i2 hE2 hpos hl (List.isEmpty_iff.1 hid)
         rw [m2, hlen'] at v1
         exact ⟨_, _, _, hrun, i1, Evo.trans e2 e1 (by show K.H.length ≤ H1.length; omega), v1⟩
       ·cases hl : mkRow C e l' with
        | none => rw [hl] at h; cases h
        | some p =>
         rw [hl] at h
         simp only [Option.map_some, Option.some.injEq, Prod.mk.injEq] at h
         obtain ⟨rfl, rfl⟩ := h
         obtain ⟨h1, h2, h3, h4, h5⟩ := mkRow_rel hE2 hpos hl
         have h2' : plen p = n := by omega
         obtain ⟨hpos', hpm⟩ := h1.pos
         obtain ⟨μ', g1, g2, g3⟩ := pushRow (K := ⟨K.μ, H1, K.w⟩) (T := T) (w' := K.w.alloc (.cells cells e)) (cs := cells) (E := e) (cap := n) i2 ⟨p, 0, some n, 1, true, true, 0⟩ rfl rfl (fun h => by cases h) hpm (by simp) rfl rfl rfl
          (alloc_new _ _) (fun b hb => alloc_old _ _ hb) (by simp only; omega) (by simp only; rw [← h2']; exact h3) hpos' (fun c' hc' => by simpa using hc'.symm)
          (by unfold PayOk; simp only [if_true]; exact h1)
         refine ⟨_, _, μ', hrun, g1, Evo.trans e2 g2 (by show K.H.length ≤ H1.length; omega), ?_⟩
         simp only [h2'] at g3
         exact g3
  ·cases h
 ·cases h

end Go.AM

/- Builtins; one operation that is no call of a function. -/
namespace Go.AM

/-- arguments -/
def ArgsRel (K : Kx) (T : Nat → Nat → Prop) : List AV → List Value → Prop
 | [], [] => True
 | a :: r, v :: s => VRel K T a v ∧ ArgsRel K T r s
 | _, _ => False

theorem ArgsRel.nil {K : Kx} {T : Nat → Nat → Prop} {vs : List Value} (h : ArgsRel K T [] vs) : vs = [] := by
 cases vs with
 | nil => rfl
 | cons => exact h.elim

theorem ArgsRel.cons {K : Kx} {T : Nat → Nat → Prop} {a : AV} {r : List AV} {vs : List Value} (h : ArgsRel K T (a :: r) vs) : ∃ v s, vs = v :: s ∧ VRel K T a v ∧ ArgsRel K T r s := by
 cases vs with
 | nil => exact h.elim
 | cons v s => exact ⟨v, s, rfl, h⟩

theorem minmax_ok {P : Program} {w : World} {K : Kx} {T : Nat → Nat → Prop} : ∀ {l : List AV} {x r : AV} {v : Value} {vs : List Value}, VRel K T x v → ArgsRel K T l vs → ∀ b, minmax b x l = some r →
  ∃ u, (vs.foldlM (if b then Builtin.max2 else Builtin.min2) v).run P w = .ok u w ∧ VRel K T r u
 | [], x, r, v, vs, hv, ha, b, h => by
  rw [ha.nil]
  unfold minmax at h
  simp only [Option.some.injEq] at h
  subst h
  exact ⟨v, by simp, hv⟩
 | y :: l, x, r, v, vs, hv, ha, b, h => by
  obtain ⟨u, s, rfl, hu, hs⟩ := ha.cons
  unfold minmax at h
  split at h
  ·rename_i heq; cases heq
  ·rename_i k n k' m t heq
   simp only [List.cons.injEq] at heq
   obtain ⟨rfl, rfl⟩ := heq
   split at h
   ·rename_i hk
    subst hk
    rw [hv.int, hu.int]
    obtain ⟨z, h1, h2⟩ := minmax_ok (P := P) (w := w) (K := K) (T := T) (v := .int k (if b then (if m > n then m else n) else (if m < n then m else n))) (by simp [VRel, V1Rel, SRel, RV]) hs b h
    refine ⟨z, ?_, h2⟩
    cases b
    ·simp only [Bool.false_eq_true, if_false] at h1 ⊢
     simp only [List.foldlM_cons, Sem.run_bind, Builtin.min2, Sem.run_pure, Result.andThen_ok]
     exact h1
    ·simp only [if_true] at h1 ⊢
     simp only [List.foldlM_cons, Sem.run_bind, Builtin.max2, Sem.run_pure, Result.andThen_ok]
     exact h1
   ·cases h
  ·cases h

theorem copyV_ok {C : Ctx} {K : Kx} {T : Nat → Nat → Prop} (hI : Inv C K T) {t ty : TypeId} {s x r : AV} {H' : Heap} {vs vx : Value} {ts : Array TypeId} {args : Array Value} (hs : VRel K T s vs) (hx : VRel K T x vx)
  (h : copyV C K.H t s x = some (r, H')) (h0 : ts[0]? = some t) (ha0 : args[0]? = some vs) (ha1 : args[1]? = some vx) :
  ∃ u w', (Builtin.copy_ ts ty args).run C.P K.w = .ok u w' ∧ Inv C ⟨K.μ, H', w'⟩ T ∧ Evo T K.H.length K ⟨K.μ, H', w'⟩ ∧ VRel ⟨K.μ, H', w'⟩ T r u := by
 unfold copyV at h
 split at h
 ·rename_i e hu
  have hu' := und_some hu (by simp)
  split at h
  ·rename_i o off len g c l tg
   split at h
   ·rename_i ob hob
    split at h
    ·rename_i m hm
     split at h
     ·rename_i hc
      obtain ⟨hids, hsz, hok, hle, hpos, hfit⟩ := hc
      simp only [Option.some.injEq, Prod.mk.injEq] at h
      obtain ⟨rfl, rfl⟩ := h
      obtain ⟨d, hd, _⟩ := okT_some hok
      obtain ⟨news, hn1, hn2, hn3, hn4⟩ := srcV_ok hI hx (show srcV K.H (.ro c (.pb l) tg) = some (.pb l, ptag (.pb l) tg) by simp [srcV, payB])
      simp only [VRel, V1Rel, SRel] at hs
      obtain ⟨h1, h2⟩ := live_iff.1 hob
      obtain ⟨hpm, ad, cap, rfl, hcap, hpl, had, _, _⟩ := (hs.2.2 ob h1).2 h2
      obtain ⟨hsh, hcl⟩ := (hI.obj o ob h1).open hpm
      have hpl1 : plen ob.p = m.length := by rw [hm]; rfl
      have hpe : pesz ob.p = 1 := by rw [hm]; rfl
      have hs1 := hsh.1
      have hC : (K.μ o).cap ≠ 0 := by omega
      have had := had (by omega)
      obtain ⟨cur, E, h3, h4, h5, h6⟩ := hcl hC
      have hnl : news.length = l.length := by have := hn1.2; simpa [plen, pesz] using this
      have hle1 : (m.take off).length = off := by simp; omega
      have hp : GP (RV K.w (NT K T ob.tg)) (.pb (m.take off ++ l ++ m.drop (off + l.length))) (over (fun j => cur[(K.μ o).base + j]?) off news) := by
       unfold PayOk at h6
       rw [if_neg (by rw [hids]; decide), hm] at h6
       have hn := hn1.1
       simp only [RP] at h6
       simp only [GP] at hn ⊢
       intro j b hb
       simp only [over]
       rw [List.append_assoc] at hb
       by_cases hj : j < off
       ·rw [if_neg (by omega)]
        rw [List.getElem?_append_left (by omega), List.getElem?_take_of_lt hj] at hb
        exact h6 j b hb
       ·rw [List.getElem?_append_right (by omega), hle1] at hb
        by_cases hj2 : j < off + l.length
        ·rw [if_pos (by omega)]
         rw [List.getElem?_append_left (by omega)] at hb
         exact hn _ b hb
        ·rw [if_neg (by omega)]
         rw [List.getElem?_append_right (by omega), List.getElem?_drop] at hb
         exact h6 j b (by rw [← hb]; congr 1; omega)
      have hlen : plen (.pb (m.take off ++ l ++ m.drop (off + l.length))) = plen ob.p := by
       rw [hpl1]; simp [plen]; omega
      have hst := Inv.store (T := T) (p' := .pb (m.take off ++ l ++ m.drop (off + l.length))) (tg := ob.tg) (k := off) (vs := news) hI hob hpm rfl hlen (by rw [hpe]; rfl) (by rw [hpl1, hpe]; omega) hC h3 h4
       (by unfold PayOk; rw [if_neg (by simp only; rw [hids]; decide)]; simp only [GP] at hp; simp only [RP]; exact hp)
      refine ⟨goInt l.length, _, ?_, hst.1, hst.2, by simp [VRel, V1Rel, SRel, RV, goInt]⟩
      have hrun := run_storeCells_at C.P (K.μ o).blk ((K.μ o).base + off) E news 0 cur K.w h3 (by rw [hpe] at h4; omega) hn2
      have hf := hn4 1 (fun _ => rfl) C.P K.w (fun _ _ => rfl)
      have hlo := hn3 C.P K.w
      have hmin : Nat.min l.length len = l.length := Nat.min_eq_left hle
      simp only [plen] at hf hlo
      have hso : (sizeOf e).run C.P K.w = .ok 1 K.w := by rw [run_sizeOf hd, hsz]
      rw [hpe, Nat.mul_one] at had
      subst had
      simp only [Nat.add_zero] at hrun
      simp only [Builtin.copy_, h0, ha0, ha1, Sem.run_bind, run_und hu', Result.andThen_ok, hlo, hmin, hso, hf, Sem.run_pure]
      simp only [Sem.run_bind, hrun, Result.andThen_ok, Sem.run_pure, Nat.add_assoc]
     ·cases h
    ·cases h
   ·cases h
  ·cases h
 ·cases h

theorem builtinV_ok {C : Ctx} {K : Kx} {T : Nat → Nat → Prop} (hI : Inv C K T) {b : Builtin} {ts : Array TypeId} {args : List AV} {vs : Array Value} {r : AV} {H' : Heap} (ha : ArgsRel K T args vs.toList)
  (h : builtinV C K.H b ts.toList args = some (r, H')) (ty : TypeId) (consts : Array Bool) : Res C T K r H' ((builtin b ts ty consts vs).run C.P K.w) := by
 have hts : ∀ {t : TypeId} {l : List TypeId}, ts.toList = t :: l → ts[0]? = some t := fun h => by
  rw [← Array.getElem?_toList, h]; rfl
 have hts1 : ∀ {t u : TypeId} {l : List TypeId}, ts.toList = t :: u :: l → ts[1]? = some u := fun h => by
  rw [← Array.getElem?_toList, h]; rfl
 have hvs : ∀ {t : Value} {l : List Value}, vs.toList = t :: l → vs[0]? = some t := fun h => by
  rw [← Array.getElem?_toList, h]; rfl
 have hvs1 : ∀ {t u : Value} {l : List Value}, vs.toList = t :: u :: l → vs[1]? = some u := fun h => by
  rw [← Array.getElem?_toList, h]; rfl
 unfold builtinV at h
 split at h
 ·rename_i t _ x _ hte
  obtain ⟨v, s, hv, hx, _⟩ := ha.cons
  cases hl : lenV C K.H t x with
  | none => rw [hl] at h; cases h
  | some n =>
   rw [hl] at h
   simp only [Option.map_some, Option.some.injEq, Prod.mk.injEq] at h
   obtain ⟨rfl, rfl⟩ := h
   have := lenV_ok (ty := ty) hI hx hl (hts hte) (hvs hv)
   exact Res.same hI (v := .int .i64 n) (by simp [builtin, this]) (by simp [VRel, V1Rel, SRel, RV])
 ·rename_i t _ x _ hte
  obtain ⟨v, s, hv, hx, _⟩ := ha.cons
  cases hl : capV C K.H t x with
  | none => rw [hl] at h; cases h
  | some n =>
   rw [hl] at h
   simp only [Option.map_some, Option.some.injEq, Prod.mk.injEq] at h
   obtain ⟨rfl, rfl⟩ := h
   have := capV_ok (ty := ty) hI hx hl (hts hte) (hvs hv)
   exact Res.same hI (v := .int .i64 n) (by simp [builtin, this]) (by simp [VRel, V1Rel, SRel, RV])
 ·rename_i t u _ s x hte
  obtain ⟨v, s1, hv, hx, h1⟩ := ha.cons
  obtain ⟨v', s2, rfl, hx', h2⟩ := h1.cons
  split at h
  ·rename_i hc
   obtain ⟨u, w', μ', h3, h4, h5, h6⟩ := appendV_ok (ty := ty) hI hx hx' h (hts hte) (hts1 hte) hc.1 hc.2 (hvs hv) (hvs1 hv)
   simp only [builtin, Sem.run_bind, h3, Result.andThen_ok, Sem.run_pure]
   exact ⟨μ', h4, h5, h6⟩
  ·cases h
 ·rename_i t _ s x hte
  obtain ⟨v, s1, hv, hx, h1⟩ := ha.cons
  obtain ⟨v', s2, rfl, hx', h2⟩ := h1.cons
  obtain ⟨u, w', h3, h4, h5, h6⟩ := copyV_ok (ty := ty) hI hx hx' h (hts hte) (hvs hv) (hvs1 hv)
  simp only [builtin, Sem.run_bind, h3, Result.andThen_ok, Sem.run_pure]
  exact ⟨K.μ, h4, h5, h6⟩
 ·rename_i x l
  obtain ⟨v, s, hv, hx, h1⟩ := ha.cons
  cases hm : minmax true x l with
  | none => rw [hm] at h; cases h
  | some z =>
   rw [hm] at h
   simp only [Option.map_some, Option.some.injEq, Prod.mk.injEq] at h
   obtain ⟨rfl, rfl⟩ := h
   obtain ⟨u, h2, h3⟩ := minmax_ok (P := C.P) (w := K.w) hx h1 true hm
   simp only [if_true] at h2
   exact Res.same hI (v := u) (by simp only [builtin, Builtin.max_, hv, Sem.run_bind, h2, Result.andThen_ok, Sem.run_pure]) h3
 ·rename_i x l
  obtain ⟨v, s, hv, hx, h1⟩ := ha.cons
  cases hm : minmax false x l with
  | none => rw [hm] at h; cases h
  | some z =>
   rw [hm] at h
   simp only [Option.map_some, Option.some.injEq, Prod.mk.injEq] at h
   obtain ⟨rfl, rfl⟩ := h
   obtain ⟨u, h2, h3⟩ := minmax_ok (P := C.P) (w := K.w) hx h1 false hm
   simp only [Bool.false_eq_true, if_false] at h2
   exact Res.same hI (v := u) (by simp only [builtin, Builtin.min_, hv, Sem.run_bind, h2, Result.andThen_ok, Sem.run_pure]) h3
 ·cases h

end Go.AM

/- Maps. -/
namespace Go.AM
open Go.MapKept

theorem bytes_beq' (a b : List UInt8) : ((⟨⟨a⟩⟩ : ByteArray) == ⟨⟨b⟩⟩) = (a == b) := by
 rw [Bool.eq_iff_iff, bytes_beq]
 simp

def keyV (l : List UInt8) : Array Value := (l.map fun b => Value.int .u8 b.toNat).toArray

theorem keyV_get (l : List UInt8) (i : Nat) : (keyV l)[i]? = (l[i]?).map fun b => Value.int .u8 b.toNat := by simp [keyV]

theorem u8_beq (a b : UInt8) : ((a.toNat : Int) == (b.toNat : Int)) = (a == b) := by
 rw [Bool.eq_iff_iff]
 simp only [beq_iff_eq, Int.natCast_inj]
 exact UInt8.toNat_inj

theorem plain_u8 {P : Program} {e : TypeId} (h : P.underlying e = some (.int .u8)) : P.plainKey e = true := by simp [Program.plainKey, h]

theorem run_items {P : Program} {w : World} {e : TypeId} (d : Nat) (he : P.underlying e = some (.int .u8)) {a b : List UInt8} (hab : a.length = b.length) : ∀ (m k : Nat), k + m = a.length →
  (Op.eqItems (d + 1) e 1 (keyV a) (keyV b) (List.range' k m)).run P w = .ok (a.drop k == b.drop k) w
 | 0, k, h => by
  rw [List.drop_eq_nil_of_le (by omega), List.drop_eq_nil_of_le (by omega)]
  simp [Op.eqItems]
 | m + 1, k, h => by
  have h1 : k < a.length := by omega
  have h2 : k < b.length := by omega
  have e1 : (part e (keyV a) (k * 1)).run P w = .ok (Value.int .u8 (a[k]).toNat) w := run_part_plain w (plain_u8 he) (by rw [Nat.mul_one, keyV_get, List.getElem?_eq_getElem h1]; rfl)
  have e2 : (part e (keyV b) (k * 1)).run P w = .ok (Value.int .u8 (b[k]).toNat) w := run_part_plain w (plain_u8 he) (by rw [Nat.mul_one, keyV_get, List.getElem?_eq_getElem h2]; rfl)
  rw [List.range'_succ]
  simp only [Op.eqItems, Sem.run_bind, e1, e2, Result.andThen_ok, run_equalIn_int w d e _ _ _ _ he]
  rw [u8_beq]
  have hd : (a.drop k == b.drop k) = (a[k] == b[k] && a.drop (k + 1) == b.drop (k + 1)) := by
   rw [List.drop_eq_getElem_cons h1, List.drop_eq_getElem_cons h2]
   rfl
  rw [hd]
  cases hq : (a[k] == b[k]) with
  | false => simp
  | true =>
   have := run_items (w := w) d he hab m (k + 1) (by omega)
   simp [this]

theorem run_equal_bytes {P : Program} {w : World} {t e : TypeId} {n : Nat} (hu : P.underlying t = some (.array n e)) (he : P.underlying e = some (.int .u8)) (hs : P.cellsOf e = 1) {a b : List UInt8} (ha : a.length = n) (hb : b.length = n) :
  (Op.equal t (.agg (keyV a)) (.agg (keyV b))).run P w = .ok (a == b) w := by
 obtain ⟨i, hi⟩ := info_of_und he
 unfold Op.equal
 rw [show Op.maxDepth = 9999 + 1 from rfl, run_equalIn_array w 9999 _ _ hu hi, hs, List.range_eq_range']
 have := run_items (w := w) 9998 he (by omega : a.length = b.length) n 0 (by omega)
 simpa using this

theorem run_checkKey_bytes {P : Program} {w : World} {t e : TypeId} {n : Nat} (hu : P.underlying t = some (.array n e)) (he : P.underlying e = some (.int .u8)) (hs : P.cellsOf e = 1) {a : List UInt8} (ha : a.length = n) (em : Bool) (d : Nat) :
  (Instr.checkKey em (d + 1 + 1) t (.agg (keyV a))).run P w = .ok () w := by
 obtain ⟨i, hi⟩ := info_of_und he
 have key : ∀ (f : Nat → PUnit → Sem (ForInStep PUnit)), (∀ i, i < n → (f i PUnit.unit).run P w = .ok (ForInStep.yield PUnit.unit) w) → ∀ (m k : Nat), k + m = n → (forIn (List.range' k m) PUnit.unit f).run P w = .ok PUnit.unit w := by
  intro f hf m
  induction m with
  | zero => intro k _; simp
  | succ m ih =>
   intro k hk
   rw [List.range'_succ]
   simp only [List.forIn_cons, Sem.run_bind, hf k (by omega), Result.andThen_ok]
   exact ih (k + 1) (by omega)
 rw [Instr.checkKey]
 simp only [Sem.run_bind, run_underlying hu, Result.andThen_ok]
 simp only [Std.Legacy.Range.forIn_eq_forIn_range', Std.Legacy.Range.size, Nat.sub_zero, Nat.add_one_sub_one, Nat.div_one]
 refine (congrArg (fun r => Result.andThen r fun _ w' => Sem.run P (pure ()) w') (key _ (fun k hk => ?_) n 0 (by omega))).trans rfl
 have h1 : k < a.length := by omega
 have e1 : (part e (keyV a) (k * 1)).run P w = .ok (Value.int .u8 (a[k]).toNat) w := run_part_plain w (plain_u8 he) (by rw [Nat.mul_one, keyV_get, List.getElem?_eq_getElem h1]; rfl)
 simp only [Sem.run_bind, Go.run_sizeOf w hi, hs, Result.andThen_ok, e1]
 rw [run_checkKey he (show IsKey (.int .u8) (.int .u8 _) from rfl)]
 simp only [Result.andThen_ok, Sem.run_pure]

theorem KRel.agg {l : List UInt8} {v : Value} (h : KRel (.agg (.pb l)) v) : v = .agg (keyV l) := by
 obtain ⟨cs, rfl, rfl⟩ := h
 rfl

theorem keyEq_val {k k' : AV} {v u : Value} (h : keyEq k k' = some true) (hk : KRel k v) (hk' : KRel k' u) : u = v := by
 unfold keyEq at h
 split at h
 ·split at h
  ·rename_i e
   simp only [Option.some.injEq, beq_iff_eq] at h
   subst h; subst e
   simp only [KRel] at hk hk'
   rw [hk, hk']
  ·cases h
 ·simp only [Option.some.injEq, beq_iff_eq] at h
  subst h
  simp only [KRel] at hk hk'
  rw [hk, hk']
 ·simp only [Option.some.injEq, beq_iff_eq] at h
  subst h
  simp only [KRel] at hk hk'
  rw [hk, hk']
 ·split at h
  ·simp only [Option.some.injEq, beq_iff_eq] at h
   subst h
   rw [hk.agg, hk'.agg]
  ·cases h
 ·cases h

/-- a map's entries -/
def Entries (K : Kx) (T : Nat → Nat → Prop) (l : List AV) (es : List MapEntry) : Prop :=
 es.length = l.length ∧ ∀ (i : Nat) (a : AV), l[i]? = some a → ∃ (k v : AV) (e : MapEntry), a = .pc [k, v] ∧ es[i]? = some e ∧ KRel k e.key ∧ V1Rel K T v e.val

theorem Entries.tail {K : Kx} {T : Nat → Nat → Prop} {a : AV} {l : List AV} {e : MapEntry} {es : List MapEntry} (h : Entries K T (a :: l) (e :: es)) : Entries K T l es :=
 ⟨by simpa using h.1, fun i b hb => by
  obtain ⟨k, v, e', h1, h2, h3⟩ := h.2 (i + 1) b (by simpa using hb)
  exact ⟨k, v, e', h1, by simpa using h2, h3⟩⟩

theorem Entries.head {K : Kx} {T : Nat → Nat → Prop} {a : AV} {l : List AV} {e : MapEntry} {es : List MapEntry} (h : Entries K T (a :: l) (e :: es)) : ∃ k v, a = .pc [k, v] ∧ KRel k e.key ∧ V1Rel K T v e.val := by
 obtain ⟨k, v, e', h1, h2, h3⟩ := h.2 0 a rfl
 simp only [List.getElem?_cons_zero, Option.some.injEq] at h2
 subst h2
 exact ⟨k, v, h1, h3⟩

def FindRel (l : List AV) (es : List MapEntry) (vk : Value) (i : Nat) : Option (Nat × AV) → Option (Nat × Value) → Prop
 | none, none => True
 | some (j, v), some (j', u) => j' = j ∧ i ≤ j ∧ ∃ e k', es[j - i]? = some e ∧ e.val = u ∧ e.key = vk ∧ l[j - i]? = some (.pc [k', v])
 | _, _ => False

theorem FindRel.next {a : AV} {l : List AV} {e : MapEntry} {es : List MapEntry} {vk : Value} {i : Nat} {r : Option (Nat × AV)} {x : Option (Nat × Value)} (h : FindRel l es vk (i + 1) r x) : FindRel (a :: l) (e :: es) vk i r x := by
 cases r with
 | none => cases x with
  | none => trivial
  | some x => exact h.elim
 | some r => cases x with
  | none => exact h.elim
  | some x =>
   obtain ⟨j, v⟩ := r
   obtain ⟨j', u⟩ := x
   obtain ⟨h1, h2, e', k', h3, h4, h5, h6⟩ := h
   have hj : j - i = (j - (i + 1)) + 1 := by omega
   exact ⟨h1, by omega, e', k', by rw [hj]; simpa using h3, h4, h5, by rw [hj]; simpa using h6⟩

/-- the search, entry by entry: S tells what the model asks of an entry, F what it finds -/
theorem find_ok {K : Kx} {T : Nat → Nat → Prop} {k : AV} {vk : Value} {F : List MapEntry → Nat → Option (Nat × Value) → Prop} (hk : KRel k vk)
  (hnil : ∀ i, F [] i none) (htrue : ∀ e es i k', KRel k' e.key → keyEq k k' = some true → F (e :: es) i (some (i, e.val)))
  (hfalse : ∀ e es i k' a, KRel k' e.key → keyEq k k' = some false → F es (i + 1) a → F (e :: es) i a) :
  ∀ {l : List AV} {es : List MapEntry} {i : Nat} {r : Option (Nat × AV)}, Entries K T l es → findKV k l i = some r → ∃ a, F es i a ∧ FindRel l es vk i r a
 | [], es, i, r, hE, h => by
  have : es = [] := List.eq_nil_of_length_eq_zero (by simpa using hE.1)
  subst this
  simp only [findKV, Option.some.injEq] at h
  subst h
  exact ⟨none, hnil i, trivial⟩
 | a :: l, [], i, r, hE, h => by
  have := hE.1
  simp at this
 | a :: l, e :: es, i, r, hE, h => by
  obtain ⟨k', v, rfl, h1, h2⟩ := hE.head
  simp only [findKV] at h
  split at h
  ·rename_i hq
   simp only [Option.some.injEq] at h
   subst h
   exact ⟨some (i, e.val), htrue e es i k' h1 hq, rfl, Nat.le_refl _, e, k', by simp, rfl, keyEq_val hq hk h1, by simp⟩
  ·rename_i hq
   obtain ⟨a, h3, h4⟩ := find_ok hk hnil htrue hfalse hE.tail h
   exact ⟨a, hfalse e es i k' a h1 hq h3, h4.next⟩
  ·cases h

structure KeyR (C : Ctx) (t : TypeId) (k : AV) (vk : Value) (kt : TypeId) : Prop where
 map : C.P.underlying t = some (.map kt (elemT C t))
 rel : KRel k vk
 check : ∀ e w, (Instr.checkKey e 10000 kt vk).run C.P w = .ok () w
 stays : ∀ w, (Instr.keyThatStays vk vk).run C.P w = .ok vk w
 find : ∀ {K : Kx} {T : Nat → Nat → Prop} {l : List AV} {es : List MapEntry} {r : Option (Nat × AV)}, Entries K T l es → findKV k l 0 = some r → ∃ a, (∀ w, (Instr.findKey kt vk es).run C.P w = .ok a w) ∧ FindRel l es vk 0 r a

theorem sameBits_cell (b : UInt8) (n : Nat) : Instr.sameBits n (.int .u8 b.toNat) (.int .u8 b.toNat) = true := by
 cases n <;> simp [Instr.sameBits]

theorem sameBits_bytes (l : List UInt8) (n : Nat) : Instr.sameBits (n + 1) (.agg (keyV l)) (.agg (keyV l)) = true := by
 simp only [Instr.sameBits, beq_self_eq_true, Bool.true_and, List.all_eq_true]
 intro x hx
 obtain ⟨a, b⟩ := x
 have : ∀ (m : List UInt8), (a, b) ∈ (m.map fun b => Value.int .u8 b.toNat).zip (m.map fun b => Value.int .u8 b.toNat) → Instr.sameBits n a b = true := by
  intro m
  induction m with
  | nil => intro h; simp at h
  | cons y m ih =>
   intro h
   simp only [List.map_cons, List.zip_cons_cons, List.mem_cons, Prod.mk.injEq] at h
   rcases h with ⟨rfl, rfl⟩ | h
   ·exact sameBits_cell y n
   ·exact ih h
 exact this l (by simpa [keyV] using hx)

theorem plain_key {C : Ctx} {t kt : TypeId} {d : TypeDesc} {k : AV} {vk : Value} (hm : C.P.underlying t = some (.map kt (elemT C t))) (hd : C.P.underlying kt = some d) (hr : KRel k vk) (hi : IsKey d vk)
  (hs : ∀ k' u b, KRel k' u → keyEq k k' = some b → Instr.sameNow d vk u = some b) : KeyR C t k vk kt where
 map := hm
 rel := hr
 check := fun e w => run_checkKey hd hi e 9999
 stays := fun w => run_keyThatStays hi
 find := by
  intro K T l es r hE h
  obtain ⟨a, h1, h2⟩ := find_ok (F := fun es i a => Instr.findNow d vk es i = some a) hr (fun i => rfl)
   (fun e es i k' h1 h2 => by simp only [Instr.findNow, hs k' _ _ h1 h2])
   (fun e es i k' a h1 h2 h3 => by simp only [Instr.findNow, hs k' _ _ h1 h2]; exact h3) hE h
  exact ⟨a, fun w => run_findKey hd h1, h2⟩

theorem bytes_key {C : Ctx} {t kt e : TypeId} {n : Nat} {l : List UInt8} (hm : C.P.underlying t = some (.map kt (elemT C t))) (hd : C.P.underlying kt = some (.array n e)) (he : C.P.underlying e = some (.int .u8)) (hs : C.P.cellsOf e = 1)
  (hl : l.length = n) : KeyR C t (.agg (.pb l)) (.agg (keyV l)) kt where
 map := hm
 rel := ⟨_, rfl, rfl⟩
 check := fun em w => run_checkKey_bytes hd he hs hl em 9998
 stays := fun w => by
  simp [Instr.keyThatStays, sameBits_bytes l 9999]
 find := by
  intro K T m es r hE h
  have heq : ∀ k' u b, KRel k' u → keyEq (.agg (.pb l)) k' = some b → ∀ w, (Op.equal kt (.agg (keyV l)) u).run C.P w = .ok b w := by
   intro k' u b hk hq w
   cases k' <;> try (simp [keyEq] at hq; done)
   case agg p =>
    cases p <;> try (simp [keyEq] at hq; done)
    case pb a2 =>
     simp only [keyEq] at hq
     split at hq
     ·rename_i hlen
      simp only [Option.some.injEq] at hq
      subst hq
      rw [hk.agg]
      exact run_equal_bytes hd he hs hl (by omega)
     ·cases hq
  obtain ⟨a, h1, h2⟩ := find_ok (F := fun es i a => ∀ w, (Instr.findAsking kt (.agg (keyV l)) es i).run C.P w = .ok a w) (show KRel (.agg (.pb l)) _ from ⟨_, rfl, rfl⟩) (fun i w => by simp [Instr.findAsking])
   (fun e es i k' h1 h2 w => by simp [Instr.findAsking, heq k' _ _ h1 h2 w, Result.andThen])
   (fun e es i k' a h1 h2 h3 w => by simp [Instr.findAsking, heq k' _ _ h1 h2 w, Result.andThen, h3 w]) hE h
  exact ⟨a, fun w => by rw [run_findKey_eq w (by rw [hd])]; exact h1 w, h2⟩

theorem int_key {K : Kx} {T : Nat → Nat → Prop} {k : IntKind} {n : Int} {v : Value} (h : VRel K T (.int k n) v) : v = .int k n := by simpa [VRel, V1Rel, SRel, RV] using h
theorem str_key {K : Kx} {T : Nat → Nat → Prop} {s : List UInt8} {v : Value} (h : VRel K T (.str s) v) : v = .string ⟨⟨s⟩⟩ := by simpa [VRel, V1Rel, SRel, RV] using h
theorem bool_key {K : Kx} {T : Nat → Nat → Prop} {b : Bool} {v : Value} (h : VRel K T (.bool b) v) : v = .bool b := by simpa [VRel, V1Rel, SRel, RV] using h
theorem pb_key {K : Kx} {T : Nat → Nat → Prop} {l : List UInt8} {v : Value} (h : VRel K T (.agg (.pb l)) v) : v = .agg (keyV l) := by
 simp only [VRel, V1Rel] at h
 obtain ⟨cs, rfl, h1, h2⟩ := h
 simp only [PRel, GP] at h2
 congr 1
 apply Array.ext_getElem?
 intro i
 rw [keyV_get]
 cases hi : l[i]? with
 | none =>
  have hlen : l.length ≤ i := by simpa using hi
  rw [Array.getElem?_eq_none (by rw [h1]; simpa [cellsLen, plen, pesz] using hlen)]
  rfl
 | some b => rw [h2 i b hi]; rfl

theorem key_ok {C : Ctx} {K : Kx} {T : Nat → Nat → Prop} {t : TypeId} {k : AV} {vk : Value} (hk : VRel K T k vk) (h : keyFits C t k = true) : ∃ kt, KeyR C t k vk kt := by
 unfold keyFits at h
 split at h
 ·rename_i kt et hu
  have hm : C.P.underlying t = some (.map kt (elemT C t)) := by
   have := und_some hu (by simp)
   rw [this]
   simp [elemT, hu]
  refine ⟨kt, ?_⟩
  split at h
  ·rename_i k1 k2 n hu2
   simp only [decide_eq_true_eq] at h
   subst h
   rw [int_key hk]
   refine plain_key hm (und_some hu2 (by simp)) rfl rfl fun k' u b h1 h2 => ?_
   cases k' <;> try (simp [keyEq] at h2; done)
   case int k3 m =>
    simp only [keyEq] at h2
    split at h2
    ·rename_i e2
     subst e2
     simp only [KRel] at h1
     subst h1
     simpa [Instr.sameNow] using h2
    ·cases h2
  ·rename_i s hu2
   rw [str_key hk]
   refine plain_key hm (und_some hu2 (by simp)) rfl trivial fun k' u b h1 h2 => ?_
   cases k' <;> try (simp [keyEq] at h2; done)
   case str s2 =>
    simp only [KRel] at h1
    subst h1
    simpa [Instr.sameNow, keyEq, bytes_beq'] using h2
  ·rename_i b0 hu2
   rw [bool_key hk]
   refine plain_key hm (und_some hu2 (by simp)) rfl trivial fun k' u b h1 h2 => ?_
   cases k' <;> try (simp [keyEq] at h2; done)
   case bool b2 =>
    simp only [KRel] at h1
    subst h1
    simpa [Instr.sameNow, keyEq] using h2
  ·rename_i n e l hu2
   simp only [Bool.and_eq_true, decide_eq_true_eq] at h
   obtain ⟨⟨h1, h2⟩, h3⟩ := h
   rw [pb_key hk]
   exact bytes_key hm (und_some hu2 (by simp)) (isU8_some h1) h3 h2
  ·cases h
 ·cases h

theorem v1_of {K : Kx} {T : Nat → Nat → Prop} {a : AV} {v : Value} (h : VRel K T a v) (hn : noTup a = true) : V1Rel K T a v := by
 cases a <;> first | exact h | cases hn

theorem map_get {C : Ctx} {K : Kx} {T : Nat → Nat → Prop} (hI : Inv C K T) {o g : Nat} {ob : Obj} {l : List AV} {v : Value} (hv : VRel K T (.map o g) v) (hl : live K.H o g = some ob) (hp : ob.p = .pm l) :
  ∃ es clock, v = .map (some (K.μ o).blk) ∧ K.w.heap[(K.μ o).blk]? = some (.map es clock) ∧ es.size = l.length ∧ clock = l.length ∧
   ∀ (i : Nat) (a : AV), l[i]? = some a → ∃ (k v : AV) (e : MapEntry), a = .pc [k, v] ∧ es[i]? = some e ∧ e.born = i ∧ KRel k e.key ∧ V1Rel K T v e.val := by
 obtain ⟨h1, h2⟩ := live_iff.1 hl
 simp only [VRel, V1Rel, SRel] at hv
 have h3 := (hv.2.2 ob h1).2 h2
 have h4 := hI.obj o ob h1
 unfold ObjOk at h4
 rw [hp] at h4
 obtain ⟨es, clock, h5, h6, h7, h8⟩ := h4
 exact ⟨es, clock, h3.2, h5, h6, h7, h8⟩

theorem entries_of {K : Kx} {T : Nat → Nat → Prop} {l : List AV} {es : Array MapEntry} (h1 : es.size = l.length)
  (h2 : ∀ (i : Nat) (a : AV), l[i]? = some a → ∃ (k v : AV) (e : MapEntry), a = .pc [k, v] ∧ es[i]? = some e ∧ e.born = i ∧ KRel k e.key ∧ V1Rel K T v e.val) : Entries K T l es.toList :=
 ⟨by simpa using h1, fun i a ha => by
  obtain ⟨k, v, e, e1, e2, _, e4, e5⟩ := h2 i a ha
  exact ⟨k, v, e, e1, by rw [Array.getElem?_toList]; exact e2, e4, e5⟩⟩

theorem map_turn {C : Ctx} {K : Kx} {T : Nat → Nat → Prop} (hI : Inv C K T) {o g : Nat} {ob : Obj} {l l' : List AV} {es es' : Array MapEntry} {clock clock' : Nat} (hl : live K.H o g = some ob) (hp : ob.p = .pm l)
  (hb : K.w.heap[(K.μ o).blk]? = some (.map es clock)) (h1 : es'.size = l'.length) (h2 : clock' = l'.length)
  (h3 : ∀ (i : Nat) (a : AV), l'[i]? = some a → ∃ (k v : AV) (e : MapEntry), a = .pc [k, v] ∧ es'[i]? = some e ∧ e.born = i ∧ KRel k e.key ∧ V1Rel K T v e.val) :
  Inv C ⟨K.μ, upd K.H o (some { ob with p := .pm l' }), { K.w with heap := K.w.heap.setIfInBounds (K.μ o).blk (.map es' clock') }⟩ T ∧
   Evo T K.H.length K ⟨K.μ, upd K.H o (some { ob with p := .pm l' }), { K.w with heap := K.w.heap.setIfInBounds (K.μ o).blk (.map es' clock') }⟩ := by
 obtain ⟨hlv, hg⟩ := live_iff.1 hl
 have hlt : o < K.H.length := live_lt hl
 have hpm : isPm ob.p = true := by rw [hp]; rfl
 obtain ⟨hs1, hs2⟩ := heap_set (o' := .map es' clock') hb
 have hself : ∀ ob', (upd K.H o (some { ob with p := .pm l' }))[o]? = some (some ob') → ob' = { ob with p := .pm l' } := by
  intro ob' h
  rcases upd_get h with ⟨_, h⟩ | ⟨h, _⟩
  ·simpa using h.symm
  ·exact absurd rfl h
 refine Inv.turn hI o (by simp [upd_len]) ?_ (by simp) rfl rfl rfl ?_ ?_ ?_ ?_
 ·intro j hj ob' h
  rcases upd_get h with ⟨h, _⟩ | ⟨_, h⟩
  ·exact absurd h hj
  ·exact ⟨h, rfl⟩
 ·intro b _ hne
  exact .inl (hs2 b (Ne.symm (hne ob hlv (.inl hpm))))
 ·intro ob' h hr
  refine ⟨.inl ⟨ob, hlv, .inl hpm, rfl⟩, ?_⟩
  have := (Array.getElem?_eq_some_iff.1 hb).1
  simpa using this
 ·intro _ ob' h
  have := hself ob' h
  subst this
  refine ⟨ob, hlv, Nat.le_refl _, fun _ => ⟨rfl, ?_⟩⟩
  simp [Same, hp, pesz, plen, isPm]
 ·intro hE ob' h
  have := hself ob' h
  subst this
  unfold ObjOk
  simp only
  refine ⟨es', clock', hs1, h1, h2, fun i a ha => ?_⟩
  obtain ⟨k, v, e, e1, e2, e3, e4, e5⟩ := h3 i a ha
  exact ⟨k, v, e, e1, e2, e3, e4, V1Rel.evo hE (Nat.le_refl _) e5⟩

theorem find_some {l : List AV} {es : Array MapEntry} {vk : Value} {i : Nat} {v : AV} {a : Option (Nat × Value)} (h : FindRel l es.toList vk 0 (some (i, v)) a) :
  ∃ e k', a = some (i, e.val) ∧ es[i]? = some e ∧ e.key = vk ∧ l[i]? = some (.pc [k', v]) := by
 cases a with
 | none => exact h.elim
 | some x =>
  obtain ⟨j, u⟩ := x
  obtain ⟨rfl, _, e, k', h1, rfl, h3, h4⟩ := h
  exact ⟨e, k', rfl, by simpa using h1, h3, by simpa using h4⟩

theorem find_none {l : List AV} {es : List MapEntry} {vk : Value} {a : Option (Nat × Value)} (h : FindRel l es vk 0 none a) : a = none := by
 cases a with
 | none => rfl
 | some x => exact h.elim

theorem ans_rel {K : Kx} {T : Nat → Nat → Prop} {a : AV} {v : Value} {ok b : Bool} (h : V1Rel K T a v) : VRel K T (if ok then .tup [a, .bool b] else a) (if ok then .tuple #[v, .bool b] else v) := by
 cases ok with
 | false => exact V1Rel.v h
 | true =>
  refine ⟨#[v, .bool b], rfl, rfl, fun j c hc => ?_⟩
  match j, hc with
  | 0, hc =>
   simp only [List.getElem?_cons_zero, Option.some.injEq] at hc
   subst hc
   exact ⟨v, rfl, h⟩
  | 1, hc =>
   simp only [List.getElem?_cons_succ, List.getElem?_cons_zero, Option.some.injEq] at hc
   subst hc
   exact ⟨.bool b, rfl, by simp [V1Rel, SRel, RV]⟩
  | j + 2, hc => simp at hc

theorem lookupV_ok {C : Ctx} {K : Kx} {T : Nat → Nat → Prop} (hI : Inv C K T) {t : TypeId} {x k r : AV} {ok : Bool} {v vk : Value} (hv : VRel K T x v) (hk : VRel K T k vk) (h : lookupV C K.H t x k ok = some r) :
  ∃ u, (Instr.lookup t v vk ok).run C.P K.w = .ok u K.w ∧ VRel K T r u := by
 unfold lookupV at h
 split at h
 ·cases h
 ·rename_i hc
  simp only [mapFits, Bool.not_eq_false, Bool.and_eq_true] at hc
  obtain ⟨c1, c2, c3⟩ := hc
  obtain ⟨kt, hkr⟩ := key_ok hk c1
  obtain ⟨z, hz, hzr, _⟩ := zero_ok (K := K) (T := T) (t := elemT C t) (C := C) rfl (fun e => by rw [e] at c2; cases c2)
  have hz1 := v1_of hzr c3
  simp only at h
  split at h
  ·have : v = .map none := by simpa [VRel, V1Rel, SRel, RV] using hv
   subst this
   simp only [Option.some.injEq] at h
   subst h
   obtain ⟨a, h1, h2⟩ := hkr.find (K := K) (T := T) (l := []) (es := []) (r := none) ⟨rfl, fun i a h => by simp at h⟩ rfl
   have := find_none h2
   subst this
   refine ⟨_, ?_, ans_rel hz1⟩
   simp [Instr.lookup, run_underlying hkr.map, Result.andThen, hkr.check, h1, hz]
  ·rename_i o g
   split at h
   ·rename_i ob hl
    split at h
    ·rename_i l hp
     obtain ⟨es, clock, rfl, hb, h6, h7, h8⟩ := map_get hI hv hl hp
     have hE := entries_of h6 h8
     split at h
     ·rename_i i y hf
      simp only [Option.some.injEq] at h
      subst h
      obtain ⟨a, h1, h2⟩ := hkr.find hE hf
      obtain ⟨e, k', rfl, h3, h4, h5⟩ := find_some h2
      obtain ⟨k2, v2, e2, e3, e4, e5, e6, e7⟩ := h8 _ _ h5
      rw [h3] at e4
      cases e4
      cases e3
      refine ⟨_, ?_, ans_rel e7⟩
      simp [Instr.lookup, run_underlying hkr.map, Result.andThen, Go.MapKept.run_getObj_map hb, hkr.check, h1]
     ·rename_i hf
      simp only [Option.some.injEq] at h
      subst h
      obtain ⟨a, h1, h2⟩ := hkr.find hE hf
      have := find_none h2
      subst this
      refine ⟨_, ?_, ans_rel hz1⟩
      simp [Instr.lookup, run_underlying hkr.map, Result.andThen, Go.MapKept.run_getObj_map hb, hkr.check, h1, hz]
     ·cases h
    ·cases h
   ·cases h
  ·cases h

theorem stays_at {C : Ctx} {t : TypeId} {k : AV} {vk : Value} {kt : TypeId} (hkr : KeyR C t k vk kt) {es : Array MapEntry} {i : Nat} {e : MapEntry} (h : es[i]? = some e) (he : e.key = vk) (w : World) :
  (Instr.keyThatStays (((es[i]?).map (·.key)).getD vk) vk).run C.P w = .ok vk w := by
 rw [h]
 simp only [Option.map_some, Option.getD_some, he]
 exact hkr.stays w

theorem updateV_ok {C : Ctx} {K : Kx} {T : Nat → Nat → Prop} (hI : Inv C K T) {t : TypeId} {x k y : AV} {v vk vy : Value} {H' : Heap} (hv : VRel K T x v) (hk : VRel K T k vk) (hy : VRel K T y vy) (h : updateV C K.H t x k y = some H') :
  ∃ w' μ', (Instr.mapUpdate t v vk vy).run C.P K.w = .ok () w' ∧ Inv C ⟨μ', H', w'⟩ T ∧ Evo T K.H.length K ⟨μ', H', w'⟩ := by
 unfold updateV at h
 split at h
 ·cases h
 ·rename_i hc
  simp only [Bool.not_eq_false, Bool.and_eq_true] at hc
  obtain ⟨c1, c3⟩ := hc
  obtain ⟨kt, hkr⟩ := key_ok hk c1
  have hy1 := v1_of hy c3
  split at h
  ·rename_i o g
   split at h
   ·rename_i ob hl
    split at h
    ·rename_i l hp
     obtain ⟨es, clock, rfl, hb, h6, h7, h8⟩ := map_get hI hv hl hp
     have hE := entries_of h6 h8
     split at h
     ·rename_i i y0 hf
      simp only [Option.some.injEq] at h
      subst h
      obtain ⟨a, h1, h2⟩ := hkr.find hE hf
      obtain ⟨e, k', rfl, h3, h4, h5⟩ := find_some h2
      obtain ⟨g1, g2⟩ := map_turn (es' := es.modify i fun e => { e with key := vk, val := vy }) (l' := l.set i (.pc [k, y])) (clock' := clock) hI hl hp hb (by simp [h6]) (by simp [h7]) (by
       intro j a ha
       rcases get_set ha with ⟨rfl, rfl, hjl⟩ | ⟨hne, ha⟩
       ·obtain ⟨k2, v2, e2, e3, e4, e5, e6, e7⟩ := h8 _ _ h5
        rw [h3] at e4
        cases e4
        exact ⟨k, y, ⟨vk, vy, e.born⟩, rfl, by rw [Array.getElem?_modify, if_pos rfl, h3]; rfl, e5, hkr.rel, hy1⟩
       ·obtain ⟨k2, v2, e2, e3, e4, e5, e6, e7⟩ := h8 _ _ ha
        exact ⟨k2, v2, e2, e3, by rw [Array.getElem?_modify, if_neg hne]; exact e4, e5, e6, e7⟩)
      refine ⟨_, _, ?_, g1, g2⟩
      simp [Instr.mapUpdate, run_underlying hkr.map, Result.andThen, Go.MapKept.run_getObj_map hb, hkr.check, h1, stays_at hkr h3 h4, Go.MapKept.run_setObj_map _ hb]
     ·rename_i hf
      simp only [Option.some.injEq] at h
      subst h
      obtain ⟨a, h1, h2⟩ := hkr.find hE hf
      have := find_none h2
      subst this
      obtain ⟨g1, g2⟩ := map_turn (es' := es.push { key := vk, val := vy, born := clock }) (l' := l ++ [.pc [k, y]]) (clock' := clock + 1) hI hl hp hb (by simp [h6]) (by simp [h7]) (by
       intro j a ha
       rcases get_app ha with ⟨hj, ha⟩ | ⟨hj, ha⟩
       ·obtain ⟨k2, v2, e2, e3, e4, e5, e6, e7⟩ := h8 _ _ ha
        exact ⟨k2, v2, e2, e3, by rw [Array.getElem?_push_lt (by omega), ← Array.getElem?_eq_getElem]; exact e4, e5, e6, e7⟩
       ·have hj0 : j = l.length := by
         have := (List.getElem?_eq_some_iff.1 ha).1
         simp at this
         omega
        subst hj0
        simp only [Nat.sub_self, List.getElem?_cons_zero, Option.some.injEq] at ha
        subst ha
        exact ⟨k, y, ⟨vk, vy, clock⟩, rfl, by rw [← h6]; simp, h7, hkr.rel, hy1⟩)
      refine ⟨_, _, ?_, g1, g2⟩
      simp [Instr.mapUpdate, run_underlying hkr.map, Result.andThen, Go.MapKept.run_getObj_map hb, hkr.check, h1, Go.MapKept.run_setObj_map _ hb]
     ·cases h
    ·cases h
   ·cases h
  ·cases h

theorem tup_rel {K : Kx} {T : Nat → Nat → Prop} {a : AV} {v : Value} {n : Int} (h : V1Rel K T a v) : VRel K T (.tup [a, .int .i64 n]) (.tuple #[v, .int .i64 n]) := by
 refine ⟨#[v, .int .i64 n], rfl, rfl, fun j c hc => ?_⟩
 match j, hc with
 | 0, hc =>
  simp only [List.getElem?_cons_zero, Option.some.injEq] at hc
  subst hc
  exact ⟨v, rfl, h⟩
 | 1, hc =>
  simp only [List.getElem?_cons_succ, List.getElem?_cons_zero, Option.some.injEq] at hc
  subst hc
  exact ⟨_, rfl, by simp [V1Rel, SRel, RV]⟩
 | j + 2, hc => simp at hc

theorem entryV_ok {C : Ctx} {K : Kx} {T : Nat → Nat → Prop} (hI : Inv C K T) {t : TypeId} {x k r : AV} {v vk : Value} {H' : Heap} (hv : VRel K T x v) (hk : VRel K T k vk) (h : entryV C K.H t x k = some (r, H')) :
  ∃ u w' μ', (Instr.mapEntry t v vk).run C.P K.w = .ok u w' ∧ Inv C ⟨μ', H', w'⟩ T ∧ Evo T K.H.length K ⟨μ', H', w'⟩ ∧ VRel ⟨μ', H', w'⟩ T r u := by
 unfold entryV at h
 split at h
 ·cases h
 ·rename_i hc
  simp only [mapFits, Bool.not_eq_false, Bool.and_eq_true] at hc
  obtain ⟨c1, c2, c3⟩ := hc
  obtain ⟨kt, hkr⟩ := key_ok hk c1
  obtain ⟨z, hz, hzr, _⟩ := zero_ok (K := K) (T := T) (t := elemT C t) (C := C) rfl (fun e => by rw [e] at c2; cases c2)
  have hz1 := v1_of hzr c3
  split at h
  ·rename_i o g
   split at h
   ·rename_i ob hl
    split at h
    ·rename_i l hp
     obtain ⟨es, clock, rfl, hb, h6, h7, h8⟩ := map_get hI hv hl hp
     have hE := entries_of h6 h8
     split at h
     ·rename_i i y0 hf
      simp only [Option.some.injEq, Prod.mk.injEq] at h
      obtain ⟨rfl, rfl⟩ := h
      obtain ⟨a, h1, h2⟩ := hkr.find hE hf
      obtain ⟨e, k', rfl, h3, h4, h5⟩ := find_some h2
      obtain ⟨k2, v2, e2, e3, e4, e5, e6, e7⟩ := h8 _ _ h5
      rw [h3] at e4
      cases e4
      cases e3
      have hsame : es.modify i (fun e => { e with key := vk }) = es := by
       apply Array.ext_getElem?
       intro j
       rw [Array.getElem?_modify]
       split
       ·rename_i hj
        subst hj
        rw [h3]
        simp only [Option.map_some]
        rw [← h4]
       ·rfl
      have hset : K.w.heap.setIfInBounds (K.μ o).blk (.map es clock) = K.w.heap := by
       apply Array.ext_getElem?
       intro j
       by_cases hj : j = (K.μ o).blk
       ·subst hj
        rw [(heap_set hb).1, hb]
       ·exact (heap_set hb).2 j hj
      have hst : ∀ w, (Instr.keyThatStays e.key vk).run C.P w = .ok vk w := fun w => by rw [h4]; exact hkr.stays w
      refine ⟨_, K.w, K.μ, ?_, hI, Evo.refl T K (Nat.le_refl _), tup_rel (n := i) e7⟩
      simp [Instr.mapEntry, run_underlying hkr.map, Result.andThen, Go.MapKept.run_getObj_map hb, hkr.check, h1, hst, Go.MapKept.run_setObj_map _ hb, hsame, hset, h3, e5, goInt]
     ·rename_i hf
      simp only [Option.some.injEq, Prod.mk.injEq] at h
      obtain ⟨rfl, rfl⟩ := h
      obtain ⟨a, h1, h2⟩ := hkr.find hE hf
      have := find_none h2
      subst this
      subst h7
      obtain ⟨g1, g2⟩ := map_turn (es' := es.push { key := vk, val := z, born := l.length }) (l' := l ++ [.pc [k, zeroAV C (elemT C t)]]) (clock' := l.length + 1) hI hl hp hb (by simp [h6]) (by simp) (by
       intro j a ha
       rcases get_app ha with ⟨hj, ha⟩ | ⟨hj, ha⟩
       ·obtain ⟨k2, v2, e2, e3, e4, e5, e6, e7⟩ := h8 _ _ ha
        exact ⟨k2, v2, e2, e3, by rw [Array.getElem?_push_lt (by omega), ← Array.getElem?_eq_getElem]; exact e4, e5, e6, e7⟩
       ·have hj0 : j = l.length := by
         have := (List.getElem?_eq_some_iff.1 ha).1
         simp at this
         omega
        subst hj0
        simp only [Nat.sub_self, List.getElem?_cons_zero, Option.some.injEq] at ha
        subst ha
        exact ⟨k, zeroAV C (elemT C t), ⟨vk, z, l.length⟩, rfl, by rw [← h6]; simp, rfl, hkr.rel, hz1⟩)
      refine ⟨_, _, _, ?_, g1, g2, tup_rel (n := l.length) (V1Rel.evo g2 (Nat.le_refl _) hz1)⟩
      simp [Instr.mapEntry, run_underlying hkr.map, Result.andThen, Go.MapKept.run_getObj_map hb, hkr.check, h1, hz, Go.MapKept.run_setObj_map _ hb, goInt]
     ·cases h
    ·cases h
   ·cases h
  ·cases h

theorem entryStoreV_ok {C : Ctx} {K : Kx} {T : Nat → Nat → Prop} (hI : Inv C K T) {t : TypeId} {x s y : AV} {v vs vy : Value} {H' : Heap} (hv : VRel K T x v) (hk : VRel K T s vs) (hy : VRel K T y vy) (h : entryStoreV K.H x s y = some H') :
  ∃ w' μ', (Instr.entryStore t v vs vy).run C.P K.w = .ok () w' ∧ Inv C ⟨μ', H', w'⟩ T ∧ Evo T K.H.length K ⟨μ', H', w'⟩ := by
 unfold entryStoreV at h
 split at h
 ·cases h
 ·rename_i hc
  have hy1 := v1_of hy (by simpa using hc)
  split at h
  ·rename_i o g n
   have hvs := int_key hk
   subst hvs
   split at h
   ·rename_i ob hl
    split at h
    ·rename_i l hp
     obtain ⟨es, clock, rfl, hb, h6, h7, h8⟩ := map_get hI hv hl hp
     split at h
     ·rename_i hn
      split at h
      ·rename_i k _ hli
       simp only [Option.some.injEq] at h
       subst h
       obtain ⟨k2, v2, e, e3, e4, e5, e6, e7⟩ := h8 _ _ hli
       cases e3
       have hlt : n.toNat < es.size := (Array.getElem?_eq_some_iff.1 e4).1
       have hfind : es.findIdx? (fun e => (e.born : Int) == n) = some n.toNat := by
        rw [Array.findIdx?_eq_some_iff_getElem]
        refine ⟨hlt, ?_, fun j hj => ?_⟩
        ·have := (Array.getElem?_eq_some_iff.1 e4).2
         rw [this, e5]
         simp
         omega
        ·have hjl : j < l.length := by omega
         obtain ⟨k3, v3, e', f3, f4, f5, _⟩ := h8 j _ (List.getElem?_eq_getElem hjl)
         have := (Array.getElem?_eq_some_iff.1 f4).2
         rw [this, f5]
         simp
         omega
       obtain ⟨g1, g2⟩ := map_turn (es' := es.modify n.toNat fun e => { e with val := vy }) (l' := l.set n.toNat (.pc [k, y])) (clock' := clock) hI hl hp hb (by simp [h6]) (by simp [h7]) (by
        intro j a ha
        rcases get_set ha with ⟨rfl, rfl, hjl⟩ | ⟨hne, ha⟩
        ·exact ⟨k, y, ⟨e.key, vy, e.born⟩, rfl, by rw [Array.getElem?_modify, if_pos rfl, e4]; rfl, e5, e6, hy1⟩
        ·obtain ⟨k2, v2, e2, f3, f4, f5, f6, f7⟩ := h8 _ _ ha
         exact ⟨k2, v2, e2, f3, by rw [Array.getElem?_modify, if_neg hne]; exact f4, f5, f6, f7⟩)
       refine ⟨_, _, ?_, g1, g2⟩
       simp [Instr.entryStore, asInt, asIntOf, Result.andThen, Go.MapKept.run_getObj_map hb, hfind, Go.MapKept.run_setObj_map _ hb]
      ·cases h
     ·cases h
    ·cases h
   ·cases h
  ·cases h

theorem makeMap_ok {C : Ctx} {K : Kx} {T : Nat → Nat → Prop} (hI : Inv C K T) {t : TypeId} {r : Option AV} {v : Option Value} (hr : OptRel K T r v) (ht : isMapT C t = true) (hn : intOrNone r = true) :
  ∃ u w' μ', (Instr.makeMap t v).run C.P K.w = .ok u w' ∧ Inv C ⟨μ', (newMap K.H).2, w'⟩ T ∧ Evo T K.H.length K ⟨μ', (newMap K.H).2, w'⟩ ∧ VRel ⟨μ', (newMap K.H).2, w'⟩ T (newMap K.H).1 u := by
 have hrun : (Instr.makeMap t v).run C.P K.w = .ok (.map (some K.w.heap.size)) (K.w.alloc (.map #[] 0)) := by
  cases v with
  | none => rfl
  | some v =>
   cases r with
   | none => exact hr.elim
   | some r =>
    have hr' : VRel K T r v := hr
    cases r <;> first | cases hn | skip
    have := int_key hr'
    subst this
    unfold isMapT at ht
    split at ht
    ·rename_i kt et hu
     simp [Instr.makeMap, run_underlying (und_some hu (by simp)), asInt, asIntOf, Result.andThen]
    ·cases ht
 obtain ⟨μ', h1, h2, h3⟩ := Inv.push (w' := K.w.alloc (.map #[] 0)) hI ⟨.pm [], 0, none, 1, false, true, 0⟩ ⟨K.w.heap.size, 0, 0⟩ (by simp) rfl rfl rfl (fun b hb => alloc_old _ _ hb)
  (fun _ => ⟨Nat.le_refl _, by simp⟩) (by
   intro μ' hold hm hE
   unfold ObjOk
   simp only [hm]
   exact ⟨#[], 0, alloc_new _ _, rfl, rfl, fun i a h => by simp at h⟩)
 refine ⟨_, _, μ', hrun, h2, h3, ?_⟩
 simp only [newMap, VRel, V1Rel, SRel]
 refine ⟨by simp, rfl, fun ob hob => ?_⟩
 have : ob = ⟨.pm [], 0, none, 1, false, true, 0⟩ := by simpa using hob.symm
 subst this
 refine ⟨Nat.le_refl _, fun _ => ⟨rfl, ?_⟩⟩
 rw [h1]

end Go.AM

/- One operation that is no call of a function. -/
namespace Go.AM

def isFn : Op → Bool
 | .call c => match c.callee with
  | .value _ => true
  | _ => false
 | _ => false

theorem evalArgs_rel {C : Ctx} {K : Kx} {T : Nat → Nat → Prop} (hI : Inv C K T) {fr : Frame} {a : Act} (hf : FRel K T fr a.tmps) : ∀ (l : List Operand) (ts : List TypeId), ArgsRel K T (evalArgs C fr l ts) (l.map a.eval)
 | [], _ => trivial
 | x :: r, ts => by
  simp only [evalArgs, List.map_cons, ArgsRel]
  refine ⟨?_, evalArgs_rel hI hf r _⟩
  split
  ·exact evalT_v hI hf _ x
  ·exact evalO_v hI hf x

theorem evalParts_rel {C : Ctx} {K : Kx} {T : Nat → Nat → Prop} (hI : Inv C K T) {fr : Frame} {a : Act} (hf : FRel K T fr a.tmps) (t : TypeId) : ∀ (l : List (Nat × Operand)), PartsRel K T (evalParts C fr t l) (l.map fun x => (x.1, a.eval x.2))
 | [] => trivial
 | (_, x) :: r => ⟨rfl, evalT_v hI hf t x, evalParts_rel hI hf t r⟩

theorem step_ok {C : Ctx} {K : Kx} {T : Nat → Nat → Prop} (hI : Inv C K T) {fr : Frame} {a : Act} (hf : FRel K T fr a.tmps) {o : Oper} {cf : Cf} {x : AV} {H' : Heap} (hno : isFn o.op = false) (h : step C cf fr K.H o = some (x, H')) :
  Res C T K x H' ((execOp a.eval o).run C.P K.w) := by
 have eO : ∀ y, VRel K T (evalO C fr y) (a.eval y) := evalO_v hI hf
 have eT : ∀ t y, VRel K T (evalT C fr t y) (a.eval y) := evalT_v hI hf
 -- a value, the heap and the world as they were
 have same : ∀ {m : Option AV} {s : Sem Value}, (∀ y, m = some y → ∃ u, s.run C.P K.w = .ok u K.w ∧ VRel K T y u) → (m.map fun v => (v, K.H)) = some (x, H') →
   Res C T K x H' ((do pure (.value (← s)) : Sem Next).run C.P K.w) := by
  intro m s h1 h2
  cases m with
  | none => cases h2
  | some y =>
   simp only [Option.map_some, Option.some.injEq, Prod.mk.injEq] at h2
   obtain ⟨rfl, rfl⟩ := h2
   obtain ⟨u, h3, h4⟩ := h1 _ rfl
   exact Res.same hI (v := u) (by simp only [Sem.run_bind, h3, Result.andThen_ok, Sem.run_pure]) h4
 -- a value, the heap turned
 have turn : ∀ {s : Sem Value}, (∃ u w' μ', s.run C.P K.w = .ok u w' ∧ Inv C ⟨μ', H', w'⟩ T ∧ Evo T K.H.length K ⟨μ', H', w'⟩ ∧ VRel ⟨μ', H', w'⟩ T x u) →
   Res C T K x H' ((do pure (.value (← s)) : Sem Next).run C.P K.w) := by
  rintro s ⟨u, w', μ', h1, h2, h3, h4⟩
  simp only [Sem.run_bind, h1, Result.andThen_ok, Sem.run_pure]
  exact ⟨μ', h2, h3, h4⟩
 -- no value
 have skip : ∀ {s : Sem Unit} {m : Option Heap}, (∀ H1, m = some H1 → ∃ w' μ', s.run C.P K.w = .ok () w' ∧ Inv C ⟨μ', H1, w'⟩ T ∧ Evo T K.H.length K ⟨μ', H1, w'⟩) → (m.map fun H => (AV.top, H)) = some (x, H') →
   Res C T K x H' ((do s; pure .skip : Sem Next).run C.P K.w) := by
  intro s m h1 h2
  cases m with
  | none => cases h2
  | some H1 =>
   simp only [Option.map_some, Option.some.injEq, Prod.mk.injEq] at h2
   obtain ⟨rfl, rfl⟩ := h2
   obtain ⟨w', μ', h3, h4, h5⟩ := h1 _ rfl
   simp only [Sem.run_bind, h3, Result.andThen_ok, Sem.run_pure]
   exact ⟨μ', h4, h5, VRel.top _ _ _⟩
 unfold step at h
 unfold execOp
 cases hop : o.op <;> simp only [hop] at h ⊢
 case move y =>
  simp only [Option.some.injEq, Prod.mk.injEq] at h
  obtain ⟨rfl, rfl⟩ := h
  exact Res.same hI rfl (eT _ y)
 case assign y =>
  simp only [Option.some.injEq] at h
  obtain ⟨μ', h1, h2, h3⟩ := assignV_ok (t := o.type) hI (eT o.type y)
  rw [h] at h1 h2 h3
  exact ⟨μ', h1, h2, h3⟩
 case pick c y z =>
  have hc := eO c
  split at h
  ·rename_i d hd
   rw [hd] at hc
   simp only [Option.some.injEq, Prod.mk.injEq] at h
   obtain ⟨rfl, rfl⟩ := h
   have hc' := hc.bool
   cases d
   ·exact Res.same hI (v := a.eval z) (by rw [hc']; simp [asBool]) (eT _ z)
   ·exact Res.same hI (v := a.eval y) (by rw [hc']; simp [asBool]) (eT _ y)
  ·cases h
 case alloc t =>
  cases hb : boxOf (zeroAV C t) with
  | none => rw [hb] at h; cases h
  | some p =>
   rw [hb] at h
   simp only [Option.map_some, Option.some.injEq] at h
   refine turn ?_
   have := allocOp_ok hI hb
   rw [h] at this
   exact this
 case box t y =>
  cases hb : boxOf (evalT C fr t y) with
  | none => rw [hb] at h; cases h
  | some p =>
   rw [hb] at h
   simp only [Option.bind_some] at h
   split at h
   ·simp only [Option.some.injEq] at h
    refine turn ?_
    have := boxOp_ok (t := t) hI (eT t y) hb
    rw [h] at this
    exact this
   ·cases h
 case build t parts =>
  refine same (fun y hy => ?_) h
  refine buildV_ok (parts := evalParts C fr 0 parts.toList) ?_ hy
  rw [Array.toList_map]
  exact evalParts_rel hI hf 0 _
 case buildSlice t n parts =>
  refine turn (buildSliceV_ok hI ?_ h)
  rw [Array.toList_map]
  exact evalParts_rel hI hf _ _
 case load t y => exact same (fun z hz => loadV_ok hI (eO y) hz) h
 case store t y z =>
  refine skip (fun H1 h1 => ?_) h
  obtain ⟨w', h2, h3, h4⟩ := storeV_ok hI (eO y) (eT t z) h1
  exact ⟨w', _, h2, h3, h4⟩
 case nilCheck y =>
  have hy := eO y
  split at h
  ·rename_i o' i f g hd
   rw [hd] at hy
   split at h
   ·rename_i ob hob
    simp only [Option.some.injEq, Prod.mk.injEq] at h
    obtain ⟨rfl, rfl⟩ := h
    have hy2 := hy
    simp only [VRel, V1Rel, SRel] at hy2
    obtain ⟨ho, hg⟩ := live_iff.1 hob
    have := ((hy2.2.2 ob ho).2 hg).2
    rw [this] at hy ⊢
    exact Res.same hI rfl hy
   ·cases h
  ·rename_i p i f t hd
   rw [hd] at hy
   simp only [Option.some.injEq, Prod.mk.injEq] at h
   obtain ⟨rfl, rfl⟩ := h
   have hy2 := hy
   simp only [VRel, V1Rel] at hy2
   obtain ⟨b, off, h1, _⟩ := hy2
   rw [h1] at hy ⊢
   exact Res.same hI rfl hy
  ·cases h
 case binOp op t y z _ =>
  refine same (fun r hr => ?_) h
  obtain ⟨v, h1, h2⟩ := binV_ok hI (eT t y) (eT t z) hr
  exact ⟨v, h1, plain_v h2⟩
 case unOp op t y =>
  refine same (fun r hr => ?_) h
  obtain ⟨v, h1, h2⟩ := unV_ok (P := C.P) (eO y) hr
  exact ⟨v, h1, plain_v h2⟩
 case convert s d y =>
  refine turn ?_
  obtain ⟨u, w', h1, h2, h3, h4, h5⟩ := convV_ok hI (eT s y) h
  subst h2
  exact ⟨u, w', _, h1, h3, h4, h5⟩
 case makeFunc fn first caps =>
  cases fn <;> simp only at h
  case func f =>
   split at h
   ·rename_i hc
    simp only [Option.some.injEq, Prod.mk.injEq] at h
    obtain ⟨rfl, rfl⟩ := h
    have hfst : first = #[] := Array.eq_empty_of_size_eq_zero hc.1
    subst hfst
    refine Res.same hI (v := .func (.func f) #[] (caps.map a.eval)) (by simp [Instr.makeFunc]) ?_
    simp only [VRel, V1Rel]
    refine ⟨_, rfl, by simp, fun j b hb => ?_⟩
    have hs := scalars_mem hc.2 b (List.mem_of_getElem? hb)
    rw [List.getElem?_map] at hb
    cases hj : caps.toList[j]? with
    | none => rw [hj] at hb; cases hb
    | some y =>
     rw [hj] at hb
     simp only [Option.map_some, Option.some.injEq] at hb
     subst hb
     rw [Array.getElem?_toList] at hj
     exact ⟨a.eval y, by simp [hj], SRel.of_v hs (eO y)⟩
   ·cases h
  all_goals cases h
 case makeMap t r =>
  split at h
  ·rename_i hc
   simp only [Option.some.injEq] at h
   refine turn ?_
   have := makeMap_ok hI (OptRel.map hI hf r) hc.1 hc.2
   rw [h] at this
   exact this
  ·cases h
 case insert t m k y => exact skip (fun H1 h1 => updateV_ok hI (eO m) (eO k) (eT _ y) h1) h
 case mapUpdate t m k y => exact skip (fun H1 h1 => updateV_ok hI (eO m) (eO k) (eT _ y) h1) h
 case makeSlice t l c => exact turn (makeSliceV_ok hI (eO l) (eO c) h)
 case slice t y lo hi mx =>
  split at h
  ·rename_i hm
   have : mx = none := by simpa using hm
   subst this
   exact same (fun z hz => sliceV_ok hI (eT t y) (OptRel.map hI hf lo) (OptRel.map hI hf hi) hz) h
  ·cases h
 case fieldAddr s y n => exact same (fun z hz => fieldAddrV_ok (eO y) hz) h
 case field t y n => exact same (fun z hz => fieldV_ok (eT t y) hz) h
 case indexAddr t y ix => exact same (fun z hz => indexAddrV_ok hI (eO y) (eO ix) hz) h
 case index t y ix => exact same (fun z hz => indexV_ok (eT t y) (eO ix) hz) h
 case lookup t y k ok => exact same (fun z hz => lookupV_ok hI (eO y) (eO k) hz) h
 case mapEntry t m k => exact turn (entryV_ok hI (eO m) (eO k) h)
 case entryStore t m s y => exact skip (fun H1 h1 => entryStoreV_ok (t := t) hI (eO m) (eO s) (eT _ y) h1) h
 case extract t i =>
  have ht := eO t
  split at h
  ·rename_i l hl
   rw [hl] at ht
   refine same (fun z hz => ?_) h
   simp only [VRel] at ht
   obtain ⟨vs, h1, h2, h3⟩ := ht
   obtain ⟨u, h4, h5⟩ := h3 i z hz
   exact ⟨u, by rw [h1]; simp [Instr.extract, h4], h5.v⟩
  ·cases h
 case call c =>
  unfold callV at h
  split at h
  ·rename_i b hb
   have hr : (do let d ← resolve a.eval c o.type; invoke d.target d.args : Sem Next) = builtin b c.argTypes o.type (c.args.map fun | .const _ => true | _ => false) (c.args.map a.eval) := by
    simp [resolve, hb, invoke]
    rfl
   rw [hr]
   exact builtinV_ok hI (by rw [Array.toList_map]; exact evalArgs_rel hI hf _ _) h _ _
  ·rename_i y hy
   simp only [isFn, hop, hy] at hno
   cases hno
  ·cases h
 all_goals cases h

end Go.AM
