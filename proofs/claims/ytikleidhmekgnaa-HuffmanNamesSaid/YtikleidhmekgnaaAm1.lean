/- The abstract machine, part 1: a deterministic evaluator for the program's code and the proof that what it tells is so. Conditions: none beyond the theorems' own. -/
import Derived.Test.YtikleidhmekgnaaAm0
/- Places, parts of slices, lengths. -/
namespace Go.AM

theorem add_lit (b o n : Nat) : (⟨b, o, none⟩ : Addr).add n = ⟨b, o + n, none⟩ := by
  unfold Addr.add; split <;> simp_all

theorem pesz_shift (p : AV) (o i f g d : Nat) : ∃ i' f', shiftBy p o i f g d = .ptr o i' f' g ∧ i' * pesz p + f' = i * pesz p + f + d := by
  cases p <;> simp only [shiftBy, pesz] <;> first | exact ⟨_, _, rfl, by omega⟩ | skip

theorem pesz_shiftRo (p : AV) (i f t d : Nat) : ∃ i' f', shiftRo p i f t d = .rptr p i' f' t ∧ i' * pesz p + f' = i * pesz p + f + d := by
  cases p <;> simp only [shiftRo, pesz] <;> first | exact ⟨_, _, rfl, by omega⟩ | skip

theorem ptr_move {K : Kx} {T : Nat → Nat → Prop} {o i f g i' f' d : Nat} {v : Value} {ob : Obj} (hob : live K.H o g = some ob) (hv : VRel K T (.ptr o i f g) v)
    (he : i' * pesz ob.p + f' = i * pesz ob.p + f + d) :
    ∃ b off, v = .pointer (some ⟨b, off, none⟩) ∧ VRel K T (.ptr o i' f' g) (.pointer (some ⟨b, off + d, none⟩)) := by
  simp only [VRel, V1Rel, SRel] at hv ⊢
  obtain ⟨h1, h2⟩ := live_iff.1 hob
  obtain ⟨h3, rfl⟩ := (hv.2.2 ob h1).2 h2
  refine ⟨_, _, rfl, hv.1, rfl, fun ob' h' => ?_⟩
  rw [h1] at h'
  simp only [Option.some.injEq] at h'
  subst h'
  refine ⟨by omega, fun _ => ⟨h3, ?_⟩⟩
  congr 3
  omega

theorem rptr_move {K : Kx} {T : Nat → Nat → Prop} {p : AV} {i f t i' f' d : Nat} {v : Value} (hv : VRel K T (.rptr p i f t) v)
    (he : i' * pesz p + f' = i * pesz p + f + d) :
    ∃ b off, v = .pointer (some ⟨b, off, none⟩) ∧ VRel K T (.rptr p i' f' t) (.pointer (some ⟨b, off + d, none⟩)) := by
  simp only [VRel, V1Rel] at hv ⊢
  obtain ⟨b, off, rfl, h1, h2, h3⟩ := hv
  exact ⟨_, _, rfl, b, off, by congr 3; omega, h1, h2, h3⟩

theorem fieldsOf_get {C : Ctx} {s : TypeId} {n : Nat} {fd : Field} (h : (fieldsOf C s)[n]? = some fd) : ∃ fs : Array Field, C.P.underlying s = some (.struct fs) ∧ fs[n]? = some fd := by
  unfold fieldsOf at h
  split at h
  · rename_i fs hu
    exact ⟨fs, und_some hu (by simp), by simpa using h⟩
  · simp at h

theorem run_sizeOf_pos {C : Ctx} {w : World} {t : TypeId} (h : sizeT C t ≠ 0) : (sizeOf t).run C.P w = .ok (sizeT C t) w := by
  unfold sizeT at h ⊢
  cases hi : C.P.info? t with
  | none => rw [hi] at h; simp at h
  | some i => simp [sizeOf, typeInfo, hi]

theorem fieldAddrV_ok {C : Ctx} {K : Kx} {T : Nat → Nat → Prop} {s : TypeId} {a x : AV} {n : Nat} {v : Value} (hv : VRel K T a v) (h : fieldAddrV C K.H s a n = some x) :
    ∃ u, (Instr.fieldAt s v n).run C.P K.w = .ok u K.w ∧ VRel K T x u := by
  unfold fieldAddrV at h
  split at h
  · cases h
  · rename_i fd hfd
    obtain ⟨fs, hu, hf⟩ := fieldsOf_get hfd
    split at h
    · cases h
    · rename_i hsz
      have go : ∀ b off, (Instr.fieldAt s (.pointer (some ⟨b, off, none⟩)) n).run C.P K.w = .ok (.pointer (some ⟨b, off + fd.offset, none⟩)) K.w := by
        intro b off
        simp [Instr.fieldAt, run_und hu, hf, Instr.sureAddr, fieldPlace, run_sizeOf_pos hsz, hsz, add_lit]
      split at h
      · rename_i o i f g
        split at h
        · rename_i ob hob
          simp only [Option.some.injEq] at h
          subst h
          obtain ⟨i', f', e1, e2⟩ := pesz_shift ob.p o i f g fd.offset
          obtain ⟨b, off, rfl, h2⟩ := ptr_move hob hv e2
          exact ⟨_, go b off, by rw [e1]; exact h2⟩
        · cases h
      · rename_i p i f t
        simp only [Option.some.injEq] at h
        subst h
        obtain ⟨i', f', e1, e2⟩ := pesz_shiftRo p i f t fd.offset
        obtain ⟨b, off, rfl, h2⟩ := rptr_move hv e2
        exact ⟨_, go b off, by rw [e1]; exact h2⟩
      · cases h

theorem run_indexAt_array {C : Ctx} {w : World} {t e : TypeId} {len : Nat} (hu : C.P.underlying t = some (.array len e)) (hs : sizeT C e ≠ 0) (k : IntKind) {n : Int} (h0 : 0 ≤ n) (h1 : n < len) (b off : Nat) :
    (Instr.indexAt t (.pointer (some ⟨b, off, none⟩)) (.int k n)).run C.P w = .ok (.pointer (some ⟨b, off + n.toNat * sizeT C e, none⟩)) w := by
  simp [Instr.indexAt, asIntOf, run_und hu, Instr.sureAddr, h0, h1, run_sizeOf_pos hs, add_lit]

theorem run_indexAt_slice {C : Ctx} {w : World} {t e : TypeId} {len cap : Nat} (hu : C.P.underlying t = some (.slice e)) (hs : sizeT C e ≠ 0) (k : IntKind) {n : Int} (h0 : 0 ≤ n) (h1 : n < len) (b off : Nat) :
    (Instr.indexAt t (.slice (some ⟨b, off, none⟩) len cap) (.int k n)).run C.P w = .ok (.pointer (some ⟨b, off + n.toNat * sizeT C e, none⟩)) w := by
  simp [Instr.indexAt, asIntOf, run_und hu, h0, h1, run_sizeOf_pos hs, add_lit]

theorem indexAddrV_ok {C : Ctx} {K : Kx} {T : Nat → Nat → Prop} (hI : Inv C K T) {t : TypeId} {a ix x : AV} {v vi : Value} (hv : VRel K T a v) (hi : VRel K T ix vi)
    (h : indexAddrV C K.H t a ix = some x) : ∃ u, (Instr.indexAt t v vi).run C.P K.w = .ok u K.w ∧ VRel K T x u := by
  unfold indexAddrV at h
  split at h
  · rename_i k n
    have := hi.int
    subst this
    split at h
    · rename_i len e o i f g hu
      have hu' := und_some hu (by simp)
      split at h
      · rename_i ob hob
        split at h
        · rename_i hc
          obtain ⟨h0, h1, hs⟩ := hc
          have key : ∀ i' f', i' * pesz ob.p + f' = i * pesz ob.p + f + n.toNat * sizeT C e → ∃ u, (Instr.indexAt t v (.int k n)).run C.P K.w = .ok u K.w ∧ VRel K T (.ptr o i' f' g) u := by
            intro i' f' he
            obtain ⟨b, off, rfl, h2⟩ := ptr_move hob hv he
            exact ⟨_, run_indexAt_array hu' (by omega) k h0 h1 b off, h2⟩
          split at h
          · rename_i es l hp
            split at h
            · rename_i hc
              obtain ⟨rfl, rfl⟩ := hc
              simp only [Option.some.injEq] at h; subst h
              exact key _ _ (by rw [hp]; simp only [pesz]; rw [Nat.add_mul]; omega)
            · simp only [Option.some.injEq] at h; subst h
              exact key _ _ (by omega)
          · rename_i hp
            simp only [Option.some.injEq] at h; subst h
            have : pesz ob.p = 1 := by
              cases hq : ob.p <;> simp only [pesz]
              exact absurd hq (hp _ _)
            exact key _ _ (by rw [this]; omega)
        · cases h
      · cases h
    · rename_i len e p i f tg hu
      have hu' := und_some hu (by simp)
      split at h
      · rename_i hc
        obtain ⟨h0, h1, hs⟩ := hc
        have key : ∀ i' f', i' * pesz p + f' = i * pesz p + f + n.toNat * sizeT C e → ∃ u, (Instr.indexAt t v (.int k n)).run C.P K.w = .ok u K.w ∧ VRel K T (.rptr p i' f' tg) u := by
          intro i' f' he
          obtain ⟨b, off, rfl, h2⟩ := rptr_move hv he
          exact ⟨_, run_indexAt_array hu' (by omega) k h0 h1 b off, h2⟩
        split at h
        · rename_i es l
          split at h
          · rename_i hc
            obtain ⟨rfl, rfl⟩ := hc
            simp only [Option.some.injEq] at h; subst h
            exact key _ _ (by simp only [pesz]; rw [Nat.add_mul]; omega)
          · simp only [Option.some.injEq] at h; subst h
            exact key _ _ (by omega)
        · rename_i hp
          simp only [Option.some.injEq] at h; subst h
          have : pesz p = 1 := by
            cases hq : p <;> simp only [pesz]
            exact absurd hq (hp _ _)
          exact key _ _ (by rw [this]; omega)
      · cases h
    · rename_i e o off len g hu
      have hu' := und_some hu (by simp)
      split at h
      · rename_i ob hob
        split at h
        · rename_i hc
          obtain ⟨h0, h1, hs⟩ := hc
          simp only [Option.some.injEq] at h; subst h
          simp only [VRel, V1Rel, SRel] at hv ⊢
          obtain ⟨h2, h3⟩ := live_iff.1 hob
          obtain ⟨hpm, ad, cap, rfl, h4, h5, h6, h7, h8⟩ := (hv.2.2 ob h2).2 h3
          obtain ⟨hsh, hcl⟩ := (hI.obj o ob h2).open hpm
          have hcap : cap ≠ 0 := by have := hsh.1; omega
          obtain ⟨cur, E, _, _, h9, _⟩ := hcl (by omega)
          have := h6 hcap
          subst this
          refine ⟨_, run_indexAt_slice hu' (by omega) k h0 h1 _ _, hv.1, rfl, fun ob' h' => ?_⟩
          rw [h2] at h'
          simp only [Option.some.injEq] at h'
          subst h'
          refine ⟨by omega, fun _ => ⟨hpm, ?_⟩⟩
          congr 3
          rw [← hs, Nat.add_mul]; omega
        · cases h
      · cases h
    · rename_i e c p tg hu
      have hu' := und_some hu (by simp)
      split at h
      · rename_i hc
        obtain ⟨h0, h1, hs⟩ := hc
        simp only [Option.some.injEq] at h; subst h
        simp only [VRel, V1Rel, SRel, RV] at hv ⊢
        obtain ⟨ad, cap, rfl, hsh, hr⟩ := hv
        have hn : plen p ≠ 0 := by omega
        have hcap : cap ≠ 0 := by have := hsh.1; omega
        have had : ad.isSome = true := hsh.2.2.1 (fun h0 => hcap (hsh.2.1 h0).2)
        obtain ⟨a, rfl⟩ := Option.isSome_iff_exists.1 had
        obtain ⟨h2, h3, h4⟩ := hr a rfl hn
        obtain ⟨b, off, sp⟩ := a
        simp only at h2 h3 h4
        subst h2
        have hpos : pesz p ≠ 0 := by
          cases p <;> simp only [pesz] <;> first | decide | skip
          rw [RP] at h4; exact Nat.pos_iff_ne_zero.1 h4.1
        refine ⟨_, run_indexAt_slice hu' (by omega) k h0 (by omega) _ _, b, off, ?_, hn, h3, h4⟩
        congr 3
        rw [← hs]; omega
      · cases h
    · cases h
  · cases h

def OptRel (K : Kx) (T : Nat → Nat → Prop) : Option AV → Option Value → Prop
  | none, none => True
  | some x, some v => VRel K T x v
  | _, _ => False

theorem OptRel.map {C : Ctx} {K : Kx} {T : Nat → Nat → Prop} (hI : Inv C K T) {fr : Frame} {a : Act} (hf : FRel K T fr a.tmps) (x : Option Operand) : OptRel K T (x.map (evalO C fr)) (x.map a.eval) := by
  cases x with
  | none => trivial
  | some x => exact evalO_v hI hf x

theorem bound_ok {K : Kx} {T : Nat → Nat → Prop} {P : Program} {y y' d b : Nat} {x : AV} {v : Value} {code : BoundsCode} (h : bound y d (some x) = some b) (hy : y ≤ y')
    (hv : VRel K T x v) : (Instr.sliceBound v y' code).run P K.w = .ok b K.w ∧ b ≤ y := by
  unfold bound at h
  split at h
  · rename_i heq; cases heq
  · rename_i k n heq
    simp only [Option.some.injEq] at heq
    subst heq
    split at h
    · rename_i hc
      simp only [Option.some.injEq] at h
      subst h
      have := hv.int
      subst this
      have hc' : 0 ≤ n ∧ n ≤ (y' : Int) := ⟨hc.1, by omega⟩
      exact ⟨by simp [Instr.sliceBound, asIntOf, hc'], by omega⟩
    · cases h
  · cases h

/-- the two bounds of a slice expression without a third -/
theorem bounds_ok {K : Kx} {T : Nat → Nat → Prop} {P : Program} {isSlice : Bool} {len cap y l h : Nat} {lo hi : Option AV} {vlo vhi : Option Value} (hh : bound y len hi = some h) (hl : bound h 0 lo = some l) (hy : y ≤ cap)
    (h1 : OptRel K T lo vlo) (h2 : OptRel K T hi vhi) :
    (Instr.sliceBounds isSlice len cap vlo vhi none).run P K.w = .ok (l, h, cap) K.w ∧ l ≤ h ∧ (h ≤ y ∨ hi = none ∧ h = len) := by
  cases hi with
  | none =>
    cases vhi with
    | some v => exact h2.elim
    | none =>
      simp only [bound, Option.some.injEq] at hh
      subst hh
      cases lo with
      | none =>
        cases vlo with
        | some v => exact h1.elim
        | none =>
          simp only [bound, Option.some.injEq] at hl
          subst hl
          exact ⟨by simp [Instr.sliceBounds], Nat.zero_le _, .inr ⟨rfl, rfl⟩⟩
      | some x =>
        cases vlo with
        | none => exact h1.elim
        | some v =>
          have e1 := bound_ok (P := P) (code := .sliceB) hl (Nat.le_refl _) h1
          exact ⟨by simp [Instr.sliceBounds, e1.1], e1.2, .inr ⟨rfl, rfl⟩⟩
  | some z =>
    cases vhi with
    | none => exact h2.elim
    | some v =>
      have e2 := bound_ok (P := P) (code := if isSlice then .sliceAcap else .sliceAlen) hh hy h2
      cases lo with
      | none =>
        cases vlo with
        | some v => exact h1.elim
        | none =>
          simp only [bound, Option.some.injEq] at hl
          subst hl
          exact ⟨by simp [Instr.sliceBounds, e2.1], Nat.zero_le _, .inl e2.2⟩
      | some x =>
        cases vlo with
        | none => exact h1.elim
        | some u =>
          have e1 := bound_ok (P := P) (code := .sliceB) hl (Nat.le_refl _) h1
          exact ⟨by simp [Instr.sliceBounds, e2.1, e1.1], e1.2, .inl e2.2⟩

theorem isStrT_some {C : Ctx} {t : TypeId} (h : isStrT C t = true) : C.P.underlying t = some .string := by
  unfold isStrT at h
  split at h
  · exact und_some (by assumption) (by simp)
  · cases h

theorem isU8_some {C : Ctx} {t : TypeId} (h : isU8 C t = true) : C.P.underlying t = some (.int .u8) := by
  unfold isU8 at h
  split at h
  · exact und_some (by assumption) (by simp)
  · cases h

theorem run_sliceAt_plain {C : Ctx} {w : World} {t : TypeId} {d : TypeDesc} (hu : C.P.underlying t = some d) (hd : ∀ n e, d ≠ .array n e) (v : Value) (lo hi : Option Value) :
    (Instr.sliceAt t v lo hi none).run C.P w = (Instr.slice t v lo hi none).run C.P w := by
  unfold Instr.sliceAt
  rw [Sem.run_bind, run_und hu, Result.andThen_ok]
  cases d <;> first | rfl | exact absurd rfl (hd _ _)

theorem SlOk.sub {m : Pl} {ob : Obj} {off len cap l h : Nat} {ad : Option Addr} (hs : SlOk m ob off len (.slice ad len cap)) (hlh : l ≤ h) (hh : off + h ≤ plen ob.p) (hcap : off + cap = m.cap) (hm : plen ob.p ≤ m.cap) :
    SlOk m ob (off + l) (h - l) (.slice (if cap = l then ad else ad.map (·.add (l * pesz ob.p))) (h - l) (cap - l)) := by
  obtain ⟨hpm, ad', cap', he, h1, h2, h3, h4, h5⟩ := hs
  simp only [Value.slice.injEq] at he
  obtain ⟨rfl, _, rfl⟩ := he
  refine ⟨hpm, _, _, rfl, by omega, by omega, ?_, ?_, ?_⟩
  · intro hc
    rw [if_neg (by omega), h3 (by omega)]
    simp only [Option.map_some, add_lit]
    congr 2
    rw [Nat.add_mul]; omega
  · intro hc hz
    have := h4 hc hz
    split <;> simp [this]
  · intro hc
    have := h5 hc
    split
    · exact this
    · rw [Option.isSome_map]; exact this

theorem hlb_eq {l h : Nat} (hl : l ≤ h) : l + (h - l) = h := by omega

theorem psub_len {p q : AV} {lo n : Nat} (hq : psub p lo n = some q) : plen q = n := by
  cases p <;> try (simp [psub] at hq; done)
  all_goals try simp only [psub] at hq
  case pn =>
    cases lo with
    | succ lo => simp at hq
    | zero => cases n with
      | succ n => simp at hq
      | zero => simp at hq; subst hq; simp [plen]
  all_goals
    split at hq
    · simp only [Option.some.injEq] at hq
      subst hq
      simp only [plen, List.length_take, List.length_drop]
      omega
    · cases hq

theorem sliceV_ok {C : Ctx} {K : Kx} {T : Nat → Nat → Prop} (hI : Inv C K T) {t : TypeId} {a x : AV} {lo hi : Option AV} {v : Value} {vlo vhi : Option Value} (hv : VRel K T a v)
    (h1 : OptRel K T lo vlo) (h2 : OptRel K T hi vhi) (h : sliceV C K.H t a lo hi = some x) :
    ∃ u, (Instr.sliceAt t v vlo vhi none).run C.P K.w = .ok u K.w ∧ VRel K T x u := by
  unfold sliceV at h
  split at h
  · rename_i s
    split at h
    · rename_i hu
      have hu' := isStrT_some hu
      have := hv.str
      subst this
      split at h
      · rename_i hb hh
        split at h
        · rename_i lb hl
          simp only [Option.some.injEq] at h
          subst h
          obtain ⟨h3, h4, h5⟩ := bounds_ok (P := C.P) (isSlice := false) (cap := s.length) hh hl (Nat.le_refl _) h1 h2
          have hsz : (⟨⟨s⟩⟩ : ByteArray).size = s.length := rfl
          refine ⟨.string ((⟨⟨s⟩⟩ : ByteArray).extract lb hb), ?_, ?_⟩
          · rw [run_sliceAt_plain hu' (by simp)]
            unfold Instr.slice
            rw [Sem.run_bind, run_und hu', Result.andThen_ok]
            simp only [Option.isSome_none, Bool.false_eq_true, if_false, Sem.run_bind, Sem.run_pure, Result.andThen_ok, hsz, h3]
          · simp only [VRel, V1Rel, SRel, RV]
            congr 1
            have hle : hb ≤ s.length := by omega
            have : ((⟨⟨s⟩⟩ : ByteArray).extract lb hb).data = (⟨(s.drop lb).take (hb - lb)⟩ : Array UInt8) := by
              rw [ByteArray.data_extract]
              apply Array.ext'
              simp [List.take_drop, hlb_eq h4]
            exact ByteArray.ext this
        · cases h
      · cases h
    · cases h
  · rename_i c p tg
    split at h
    · rename_i e hu
      have hu' := und_some hu (by simp)
      split at h
      · rename_i hsz
        split at h
        · rename_i hb hh
          split at h
          · rename_i lb hl
            simp only [Option.map_eq_some_iff] at h
            obtain ⟨q, hq, rfl⟩ := h
            simp only [VRel, V1Rel, SRel, RV] at hv ⊢
            obtain ⟨ad, cap, rfl, hsh, hr⟩ := hv
            obtain ⟨h3, h4, h5⟩ := bounds_ok (P := C.P) (isSlice := true) (cap := cap) hh hl hsh.1 h1 h2
            have h5' : hb ≤ plen p := by omega
            have hp0 : plen q = hb - lb := psub_len hq
            refine ⟨_, ?_, (if cap = lb then ad else ad.map (·.add (lb * sizeT C e))), cap - lb, by rw [hp0], ?_, ?_⟩
            · rw [run_sliceAt_plain hu' (by simp)]
              unfold Instr.slice
              rw [Sem.run_bind, run_und hu', Result.andThen_ok]
              simp only [Sem.run_bind, Sem.run_pure, Result.andThen_ok, h3, run_sizeOf_pos (show sizeT C e ≠ 0 by omega)]
            · obtain ⟨s1, s2, s3, s4⟩ := hsh
              rw [hp0]
              refine ⟨by omega, ?_, ?_, ?_⟩
              · intro hc
                have hc0 : c = 0 := by
                  split at hc
                  · assumption
                  · split at hc <;> simp_all
                obtain ⟨rfl, rfl⟩ := s2 hc0
                simp
              · intro hc
                have hc0 : c ≠ 0 := by
                  intro h0; simp [h0] at hc
                have := s3 hc0
                split
                · exact this
                · rw [Option.isSome_map]; exact this
              · intro hc
                have : c = 1 ∧ hi = none := by
                  split at hc
                  · cases hc
                  · split at hc
                    · rename_i hh'; exact ⟨hc, by simpa using hh'⟩
                    · cases hc
                have h6 := s4 this.1
                rw [this.2] at hh
                simp only [bound, Option.some.injEq] at hh
                omega
            · intro a ha hn
              have hlt : lb < hb := by omega
              rw [if_neg (by have := hsh.1; omega)] at ha
              simp only [Option.map_eq_some_iff] at ha
              obtain ⟨a0, rfl, rfl⟩ := ha
              obtain ⟨r1, r2, r3⟩ := hr a0 rfl (by omega)
              obtain ⟨b, o, sp⟩ := a0
              simp only at r1 r2 r3
              subst r1
              rw [add_lit]
              refine ⟨rfl, r2, ?_⟩
              have hsz' : pesz p = sizeT C e := hsz.1.resolve_right (by omega)
              have := (GP.sub (RP_GP.1 r3) hq).1
              rw [hsz'] at this
              refine RP_GP.2 (GP.imp (fun _ _ h => h) (fun j u hu => ?_) this)
              simp only [← Nat.add_assoc] at hu
              exact hu
          · cases h
        · cases h
      · cases h
    · cases h
  · rename_i o off len g
    split at h
    · rename_i e ob hu hob
      have hu' := und_some hu (by simp)
      split at h
      · rename_i hsz
        split at h
        · rename_i hb hh
          split at h
          · rename_i lb hl
            simp only [Option.some.injEq] at h
            subst h
            simp only [VRel, V1Rel, SRel] at hv ⊢
            obtain ⟨h3, h4⟩ := live_iff.1 hob
            have hsl := (hv.2.2 ob h3).2 h4
            have hsl' := hsl
            obtain ⟨hpm, ad, cap, rfl, h6, h7, h8, h9, h10⟩ := hsl
            obtain ⟨hsh, hcl⟩ := (hI.obj o ob h3).open hpm
            obtain ⟨h11, h12, h13⟩ := bounds_ok (P := C.P) (isSlice := true) (cap := cap) hh hl (by have := hsh.1; omega) h1 h2
            have hoff : off + hb ≤ plen ob.p := by omega
            refine ⟨.slice (if cap = lb then ad else ad.map (·.add (lb * pesz ob.p))) (hb - lb) (cap - lb), ?_, hv.1, rfl, fun ob' h' => ?_⟩
            · rw [run_sliceAt_plain hu' (by simp)]
              unfold Instr.slice
              rw [Sem.run_bind, run_und hu', Result.andThen_ok]
              simp only [Sem.run_bind, Sem.run_pure, Result.andThen_ok, h11, run_sizeOf_pos (show sizeT C e ≠ 0 by omega), hsz.1]
            · rw [h3] at h'
              simp only [Option.some.injEq] at h'
              subst h'
              exact ⟨by omega, fun _ => SlOk.sub hsl' h12 hoff h6 hsh.1⟩
          · cases h
        · cases h
      · cases h
    · cases h
  · rename_i o g
    split at h
    · rename_i n e ob hu hob
      have hu' := und_some hu (by simp)
      split at h
      · rename_i hsz
        obtain ⟨hs1, hs2, hs3, hs4, hs5⟩ := hsz
        split at h
        · rename_i hb hh
          split at h
          · rename_i lb hl
            simp only [Option.some.injEq] at h
            subst h
            simp only [VRel, V1Rel, SRel] at hv ⊢
            obtain ⟨h3, h4⟩ := live_iff.1 hob
            obtain ⟨hpm, rfl⟩ := (hv.2.2 ob h3).2 h4
            obtain ⟨hsh, hcl⟩ := (hI.obj o ob h3).open hpm
            have hC := hsh.2.2.1 hs4
            obtain ⟨h11, h12, h13⟩ := bounds_ok (P := C.P) (isSlice := false) (cap := n) hh hl (Nat.le_refl _) h1 h2
            refine ⟨.slice (some (if n = lb then ⟨(K.μ o).blk, (K.μ o).base + 0 * pesz ob.p + 0, none⟩ else ⟨(K.μ o).blk, (K.μ o).base + 0 * pesz ob.p + 0 + lb * sizeT C e, none⟩)) (hb - lb) (n - lb), ?_, hv.1, rfl, fun ob' h' => ?_⟩
            · unfold Instr.sliceAt
              rw [Sem.run_bind, run_und hu', Result.andThen_ok]
              simp only [Instr.sureAddr, Sem.run_bind, Sem.run_pure, Result.andThen_ok, h11, run_sizeOf_pos (show sizeT C e ≠ 0 by omega), add_lit]
            · rw [h3] at h'
              simp only [Option.some.injEq] at h'
              subst h'
              refine ⟨by omega, fun _ => ⟨hpm, _, _, rfl, by omega, by omega, ?_, ?_, fun _ => rfl⟩⟩
              · intro hc
                rw [if_neg (by omega), ← hs1]
                congr 2
                omega
              · intro _ hz
                exact absurd hz hs5
          · cases h
        · cases h
      · cases h
    · cases h
  · cases h

end Go.AM

/- Parts of values, lengths, conversions. -/
namespace Go.AM

theorem CRel.part {C : Ctx} {K : Kx} {T : Nat → Nat → Prop} {t : TypeId} {l : List AV} {cs : Array Value} {q : AV} {off : Nat} (hc : CRel K T l (fun j => cs[j]?)) (hl : l.length = cs.size)
    (hlen : ((l.drop off).take (sizeT C t)).length = sizeT C t) (hq : mkAgg C t ((l.drop off).take (sizeT C t)) = some q) :
    VRel K T (.agg q) (.agg (cs.extract off (off + sizeT C t))) := by
  have h1 := CRel.sub hc off (sizeT C t)
  have hle : sizeT C t ≠ 0 → off + sizeT C t ≤ cs.size := by
    intro h0; simp at hlen; omega
  have hget : ∀ j, j < sizeT C t → (cs.extract off (off + sizeT C t))[j]? = cs[off + j]? := by
    intro j hj
    have := hle (by omega)
    simp [Array.getElem?_extract]
    omega
  have h2 : CRel K T ((l.drop off).take (sizeT C t)) (fun j => (cs.extract off (off + sizeT C t))[j]?) := by
    intro j a ha
    obtain ⟨v, h3, h4⟩ := h1 j a ha
    exact ⟨v, by rw [← h3]; exact hget j (get_sub ha).2, h4⟩
  obtain ⟨h3, h4⟩ := mkAgg_rel h2 hq
  simp only [VRel, V1Rel]
  refine ⟨_, rfl, ?_, h3⟩
  rw [h4, hlen]
  by_cases h0 : sizeT C t = 0
  · simp [h0]; omega
  · have := hle h0
    simp; omega

theorem fieldV_ok {C : Ctx} {K : Kx} {T : Nat → Nat → Prop} {t : TypeId} {a x : AV} {n : Nat} {v : Value} (hv : VRel K T a v) (h : fieldV C t a n = some x) :
    ∃ u, (Instr.field t v n).run C.P K.w = .ok u K.w ∧ VRel K T x u := by
  unfold fieldV at h
  split at h
  · rename_i l fd hfd
    obtain ⟨fs, hu, hf⟩ := fieldsOf_get hfd
    simp only [VRel, V1Rel] at hv
    obtain ⟨cs, rfl, h1, h2⟩ := hv
    simp only [cellsLen, plen, pesz, Nat.mul_one] at h1
    have go : ∀ u, (part fd.type cs fd.offset).run C.P K.w = .ok u K.w → (Instr.field t (.agg cs) n).run C.P K.w = .ok u K.w := by
      intro u hp
      simp [Instr.field, run_und hu, hf, asAgg, hp]
    split at h
    · rename_i ha
      obtain ⟨d, hd⟩ := isAggT_some ha
      split at h
      · rename_i hlen
        simp only [Option.map_eq_some_iff] at h
        obtain ⟨q, hq, rfl⟩ := h
        refine ⟨_, go _ ?_, CRel.part h2 h1.symm hlen hq⟩
        simp [part, run_isAgg hd, ha, run_sizeOf hd]
      · cases h
    · rename_i ha
      split at h
      · rename_i hok
        obtain ⟨d, hd, _⟩ := okT_some hok
        obtain ⟨u, h3, _, h4⟩ := h2 _ _ h
        refine ⟨u, go u ?_, VRel.s h4⟩
        simp only at h3
        simp [part, run_isAgg hd, ha, h3]
      · cases h
  · cases h

theorem indexV_ok {C : Ctx} {K : Kx} {T : Nat → Nat → Prop} {t : TypeId} {a ix x : AV} {v vi : Value} (hv : VRel K T a v) (hi : VRel K T ix vi) (h : indexV C t a ix = some x) :
    ∃ u, (Instr.index t v vi).run C.P K.w = .ok u K.w ∧ VRel K T x u := by
  unfold indexV at h
  split at h
  · rename_i k n
    have := hi.int
    subst this
    split at h
    · rename_i s
      have := hv.str
      subst this
      split at h
      · rename_i hu
        have hu' := isStrT_some hu
        split at h
        · rename_i h0
          simp only [Option.map_eq_some_iff] at h
          obtain ⟨b, hb, rfl⟩ := h
          refine ⟨.int .u8 b.toNat, ?_, by simp [VRel, V1Rel, SRel, RV, byteAV]⟩
          have hg : (⟨⟨s⟩⟩ : ByteArray)[n.toNat]? = some b := by
            obtain ⟨hlt, hb'⟩ := List.getElem?_eq_some_iff.1 hb
            exact (getElem?_pos (⟨⟨s⟩⟩ : ByteArray) n.toNat hlt).trans (congrArg some hb')
          simp [Instr.index, asIntOf, run_und hu', h0, hg]
        · cases h
      · cases h
    · rename_i p
      split at h
      · rename_i len e hu
        have hu' := und_some hu (by simp)
        split at h
        · rename_i hc
          obtain ⟨h0, h1, hs⟩ := hc
          simp only [VRel, V1Rel] at hv
          obtain ⟨cs, rfl, h2, h3⟩ := hv
          have go : ∀ d, C.P.underlying e = some d → ∀ u, (part e cs (n.toNat * sizeT C e)).run C.P K.w = .ok u K.w → (Instr.index t (.agg cs) (.int k n)).run C.P K.w = .ok u K.w := by
            intro d hd u hp
            simp [Instr.index, asIntOf, run_und hu', h0, h1, run_sizeOf hd, hp]
          split at h
          · rename_i ha
            obtain ⟨d, hd⟩ := isAggT_some ha
            split at h
            · rename_i es l
              simp only [Option.map_eq_some_iff] at h
              obtain ⟨q, hq, rfl⟩ := h
              simp only [PRel, GP] at h3
              obtain ⟨r, rfl, h4, h5⟩ := h3.2 _ _ hq
              simp only [pesz] at hs
              subst hs
              have hlt := (List.getElem?_eq_some_iff.1 hq).1
              have hle : (n.toNat + 1) * sizeT C e ≤ l.length * sizeT C e := Nat.mul_le_mul_right _ hlt
              rw [Nat.succ_mul] at hle
              simp only [cellsLen, plen, pesz] at h2
              refine ⟨_, go d hd _ (by simp [part, run_isAgg hd, ha, run_sizeOf hd]; rfl), ?_⟩
              simp only [VRel, V1Rel]
              refine ⟨_, rfl, by simp [cellsLen, plen, pesz]; omega, ?_⟩
              simp only [PRel, GP]
              intro j b hb
              obtain ⟨u, h6, h7⟩ := h5 j b hb
              refine ⟨u, ?_, h7⟩
              have hj := (List.getElem?_eq_some_iff.1 hb).1
              rw [← h6]
              simp [Array.getElem?_extract]
              omega
            · cases h
          · rename_i ha
            split at h
            · rename_i hok
              obtain ⟨d, hd, _⟩ := okT_some hok
              obtain ⟨u, h4, _, h5⟩ := GP.get (SRel.int_self K T) h3 h
              refine ⟨u, go d hd u ?_, VRel.s h5⟩
              simp only [Nat.add_zero] at h4
              rw [hs] at h4
              simp [part, run_isAgg hd, ha, h4]
            · cases h
        · cases h
      · cases h
    · cases h
  · cases h

theorem lenV_ok {C : Ctx} {K : Kx} {T : Nat → Nat → Prop} (hI : Inv C K T) {t ty : TypeId} {ts : Array TypeId} {x : AV} {v : Value} {vs : Array Value} {n : Int} (hv : VRel K T x v) (h : lenV C K.H t x = some n)
    (ht : ts[0]? = some t) (hvs : vs[0]? = some v) : (Builtin.len_ ts ty vs).run C.P K.w = .ok (.int .i64 n) K.w := by
  unfold lenV at h
  split at h
  · rename_i s hu
    have hu' := und_some hu (by simp)
    have := hv.str
    subst this
    simp only [Option.some.injEq] at h; subst h
    simp [Builtin.len_, ht, hvs, run_und hu', goInt]
    rfl
  · rename_i len e hu
    have hu' := und_some hu (by simp)
    simp only [Option.some.injEq] at h; subst h
    simp [Builtin.len_, ht, hvs, run_und hu', goInt]
  · rename_i e c p tg hu
    have hu' := und_some hu (by simp)
    simp only [VRel, V1Rel, SRel, RV] at hv
    obtain ⟨ad, cap, rfl, _⟩ := hv
    simp only [Option.some.injEq] at h; subst h
    simp [Builtin.len_, ht, hvs, run_und hu', goInt]
  · rename_i e o off len g hu
    have hu' := und_some hu (by simp)
    split at h
    · rename_i ob hob
      simp only [VRel, V1Rel, SRel] at hv
      obtain ⟨h1, h2⟩ := live_iff.1 hob
      obtain ⟨_, ad, cap, rfl, _⟩ := (hv.2.2 ob h1).2 h2
      simp only [Option.some.injEq] at h; subst h
      simp [Builtin.len_, ht, hvs, run_und hu', goInt]
    · cases h
  · rename_i hu
    have hu' := und_some hu (by simp)
    have : v = .map none := by simpa [VRel, V1Rel, SRel, RV] using hv
    subst this
    simp only [Option.some.injEq] at h; subst h
    simp [Builtin.len_, ht, hvs, run_und hu', goInt]
  · rename_i o g hu
    have hu' := und_some hu (by simp)
    split at h
    · rename_i ob hob
      split at h
      · rename_i l hl
        simp only [VRel, V1Rel, SRel] at hv
        obtain ⟨h1, h2⟩ := live_iff.1 hob
        obtain ⟨_, rfl⟩ := (hv.2.2 ob h1).2 h2
        simp only [Option.some.injEq] at h; subst h
        have hO := hI.obj o ob h1
        unfold ObjOk at hO
        rw [hl] at hO
        obtain ⟨es, clock, h3, h4, h5, _⟩ := hO
        simp [Builtin.len_, ht, hvs, run_und hu', goInt, getObj, Sem.run, h3, h4]
      · cases h
    · cases h
  · cases h

theorem capV_ok {C : Ctx} {K : Kx} {T : Nat → Nat → Prop} (hI : Inv C K T) {t ty : TypeId} {ts : Array TypeId} {x : AV} {v : Value} {vs : Array Value} {n : Int} (hv : VRel K T x v) (h : capV C K.H t x = some n)
    (ht : ts[0]? = some t) (hvs : vs[0]? = some v) : (Builtin.cap_ ts ty vs).run C.P K.w = .ok (.int .i64 n) K.w := by
  unfold capV at h
  split at h
  · rename_i e p tg hu
    have hu' := und_some hu (by simp)
    simp only [VRel, V1Rel, SRel, RV] at hv
    obtain ⟨ad, cap, rfl, hs, _⟩ := hv
    simp only [Option.some.injEq] at h; subst h
    have := (hs.2.1 rfl).2
    simp [Builtin.cap_, ht, hvs, run_und hu', goInt, this]
  · rename_i e p tg hu
    have hu' := und_some hu (by simp)
    simp only [VRel, V1Rel, SRel, RV] at hv
    obtain ⟨ad, cap, rfl, hs, _⟩ := hv
    simp only [Option.some.injEq] at h; subst h
    have := hs.2.2.2 rfl
    simp [Builtin.cap_, ht, hvs, run_und hu', goInt, this]
  · rename_i e o off len g hu
    have hu' := und_some hu (by simp)
    split at h
    · rename_i ob hob
      split at h
      · rename_i c hc
        simp only [VRel, V1Rel, SRel] at hv
        obtain ⟨h1, h2⟩ := live_iff.1 hob
        obtain ⟨hpm, ad, cap, rfl, h3, _⟩ := (hv.2.2 ob h1).2 h2
        obtain ⟨hsh, _⟩ := (hI.obj o ob h1).open hpm
        have := hsh.2.1 c hc
        simp only [Option.some.injEq] at h; subst h
        simp [Builtin.cap_, ht, hvs, run_und hu', goInt]
        omega
      · cases h
    · cases h
  · cases h

/-- what a slice value reads as: its cells -/
theorem readSl_ok {C : Ctx} {K : Kx} {T : Nat → Nat → Prop} (hI : Inv C K T) {x p : AV} {v : Value} (hv : VRel K T x v) (h : readSl K.H x = some p) :
    ∃ ad cap, v = .slice ad (plen p) cap ∧ plen p ≤ cap ∧ (∀ e, pesz p = e → plen p ≠ 0 → ∃ b off, ad = some ⟨b, off, none⟩ ∧ ∃ S : AV → Value → Prop, GP S p (fun j => K.w.cell? ⟨b, off + j, none⟩)) := by
  unfold readSl at h
  split at h
  · rename_i c q t
    simp only [Option.some.injEq] at h; subst h
    simp only [VRel, V1Rel, SRel, RV] at hv
    obtain ⟨ad, cap, rfl, hs, hr⟩ := hv
    refine ⟨ad, cap, rfl, hs.1, fun e _ hn => ?_⟩
    have had : ad.isSome = true := hs.2.2.1 (fun h0 => by have := (hs.2.1 h0).2; have := hs.1; omega)
    obtain ⟨⟨b, off, sp⟩, rfl⟩ := Option.isSome_iff_exists.1 had
    obtain ⟨h1, _, h2⟩ := hr _ rfl hn
    simp only at h1 h2
    subst h1
    exact ⟨b, off, rfl, _, RP_GP.1 h2⟩
  · rename_i o off len g
    split at h
    · rename_i ob hob
      simp only [VRel, V1Rel, SRel] at hv
      obtain ⟨h1, h2⟩ := live_iff.1 hob
      obtain ⟨hpm, ad, cap, rfl, h3, h4, h5, _⟩ := (hv.2.2 ob h1).2 h2
      obtain ⟨hsh, _⟩ := (hI.obj o ob h1).open hpm
      have hlen := psub_len h
      refine ⟨ad, cap, by rw [hlen], by rw [hlen]; have := hsh.1; omega, fun e _ hn => ?_⟩
      have hcap : cap ≠ 0 := by have := hsh.1; omega
      have hpl : plen ob.p ≠ 0 := by omega
      have hp := obj_pay hI hob hpm hpl
      have := h5 hcap
      refine ⟨_, _, this, ?_⟩
      have key : ∀ {S : AV → Value → Prop}, GP S ob.p (fun j => K.w.cell? ⟨(K.μ o).blk, (K.μ o).base + j, none⟩) → GP S p (fun j => K.w.cell? ⟨(K.μ o).blk, (K.μ o).base + off * pesz ob.p + j, none⟩) := by
        intro S hS
        have := (GP.sub hS h).1
        simp only [← Nat.add_assoc] at this
        exact this
      unfold PayOk at hp
      split at hp
      · exact ⟨_, key hp⟩
      · exact ⟨_, key (RP_GP.1 hp)⟩
    · cases h
  · cases h

theorem foldl_push : ∀ (l : List UInt8) (s : ByteArray), ((l.map fun b => (b.toNat : Int)).foldl (fun r n => r.push (UInt8.ofNat n.toNat)) s) = ⟨⟨s.data.toList ++ l⟩⟩
  | [], s => by simp
  | b :: l, s => by
    simp only [List.map_cons, List.foldl_cons]
    rw [foldl_push l]
    have : (s.push (UInt8.ofNat (b.toNat : Int).toNat)).data.toList = s.data.toList ++ [b] := by
      simp [ByteArray.push]
    rw [this]
    simp

theorem run_bytes {P : Program} {w : World} {l : List UInt8} {b off cap : Nat} (h : ∀ (j : Nat) (x : UInt8), l[j]? = some x → w.cell? ⟨b, off + j, none⟩ = some (.int .u8 x.toNat)) :
    (Conv.bytesToString (.slice (some ⟨b, off, none⟩) l.length cap)).run P w = .ok (.string ⟨⟨l⟩⟩) w := by
  have hl : (loadCells ⟨b, off, none⟩ l.length).run P w = .ok ((l.map fun x => (x.toNat : Int)).map (Value.int .u8)).toArray w := by
    have := run_loadCells_list (P := P) (w := w) ⟨b, off, none⟩ ((l.map fun x => (x.toNat : Int)).map (Value.int .u8)) (by
      intro j v hv
      simp only [List.getElem?_map, Option.map_eq_some_iff] at hv
      obtain ⟨n, ⟨x, hx, rfl⟩, rfl⟩ := hv
      rw [add_lit]
      exact h j x hx)
    simpa using this
  rw [run_bytesToString w ⟨b, off, none⟩ l.length cap (l.map fun x => (x.toNat : Int)) hl, foldl_push]
  simp

/-- a conversion: the heap is as it was; the world may have grown -/
theorem convV_ok {C : Ctx} {K : Kx} {T : Nat → Nat → Prop} (hI : Inv C K T) {s d : TypeId} {x y : AV} {v : Value} {H' : Heap} (hv : VRel K T x v) (h : convV C K.H s d x = some (y, H')) :
    ∃ u w', (convert s d v).run C.P K.w = .ok u w' ∧ H' = K.H ∧ Inv C ⟨K.μ, K.H, w'⟩ T ∧ Evo T K.H.length K ⟨K.μ, K.H, w'⟩ ∧ VRel ⟨K.μ, K.H, w'⟩ T y u := by
  unfold convV at h
  split at h
  · cases h
  rename_i hok
  obtain ⟨ds, hds, _⟩ := okT_some (by simpa using hok)
  have same : ∀ {u : Value}, (convert s d v).run C.P K.w = .ok u K.w → H' = K.H → VRel K T y u →
      ∃ u w', (convert s d v).run C.P K.w = .ok u w' ∧ H' = K.H ∧ Inv C ⟨K.μ, K.H, w'⟩ T ∧ Evo T K.H.length K ⟨K.μ, K.H, w'⟩ ∧ VRel ⟨K.μ, K.H, w'⟩ T y u :=
    fun h1 h2 h3 => ⟨_, _, h1, h2, hI, Evo.refl T K (Nat.le_refl _), h3⟩
  split at h
  · rename_i k k' n hu
    have hu' := und_some hu (by simp)
    simp only [Option.some.injEq, Prod.mk.injEq] at h
    obtain ⟨rfl, rfl⟩ := h
    have := hv.int
    subst this
    refine same (u := .int k (k.wrap n)) ?_ rfl (by simp [VRel, V1Rel, SRel, RV])
    simp [convert, run_und hds, run_und hu', Conv.intToInt]
  · rename_i b hu
    have hu' := und_some hu (by simp)
    simp only [Option.some.injEq, Prod.mk.injEq] at h
    obtain ⟨rfl, rfl⟩ := h
    have := hv.str
    subst this
    refine same (u := .string ⟨⟨b⟩⟩) ?_ rfl (by simp [VRel, V1Rel, SRel, RV])
    simp only [convert, Sem.run_bind, run_und hds, run_und hu', Result.andThen_ok]
    cases ds <;> rfl
  · rename_i x _ _ hu _
    have hu' := und_some hu (by simp)
    split at h
    · rename_i e hus
      have hus' := und_some hus (by simp)
      split at h
      · rename_i hu8
        have he := isU8_some hu8
        have go : ∀ {l : List UInt8}, readSl K.H x = some (.pb l) ∨ (readSl K.H x = some .pn ∧ l = []) → y = .str l → H' = K.H → 
          ∃ u w', (convert s d v).run C.P K.w = .ok u w' ∧ H' = K.H ∧ Inv C ⟨K.μ, K.H, w'⟩ T ∧ Evo T K.H.length K ⟨K.μ, K.H, w'⟩ ∧ VRel ⟨K.μ, K.H, w'⟩ T y u := by
          rintro l hl rfl rfl
          refine same (u := .string ⟨⟨l⟩⟩) ?_ rfl (by simp [VRel, V1Rel, SRel, RV])
          have key : ∃ ad cap, v = .slice ad l.length cap ∧ (l.length ≠ 0 → ∃ b off, ad = some ⟨b, off, none⟩ ∧ ∀ (j : Nat) (x : UInt8), l[j]? = some x → K.w.cell? ⟨b, off + j, none⟩ = some (.int .u8 x.toNat)) := by
            rcases hl with hl | ⟨hl, rfl⟩
            · obtain ⟨ad, cap, h1, _, h2⟩ := readSl_ok hI hv hl
              refine ⟨ad, cap, h1, fun hn => ?_⟩
              obtain ⟨b, off, h3, S, h4⟩ := h2 1 rfl hn
              exact ⟨b, off, h3, h4⟩
            · obtain ⟨ad, cap, h1, _, h2⟩ := readSl_ok hI hv hl
              exact ⟨ad, cap, h1, fun hn => absurd rfl hn⟩
          obtain ⟨ad, cap, rfl, h2⟩ := key
          rw [run_convert_bytes_string K.w s d e ad l.length cap hus' he hu']
          by_cases h0 : l.length = 0
          · have : l = [] := List.eq_nil_of_length_eq_zero h0
            subst this
            cases ad with
            | none => rfl
            | some ad =>
              simp [Conv.bytesToString, loadCells, loadCellsFrom]
              rfl
          · obtain ⟨b, off, rfl, h3⟩ := h2 h0
            exact run_bytes h3
        split at h
        · rename_i l hl
          simp only [Option.some.injEq, Prod.mk.injEq] at h
          exact go (.inl hl) h.1.symm h.2.symm
        · rename_i hl
          simp only [Option.some.injEq, Prod.mk.injEq] at h
          exact go (.inr ⟨hl, rfl⟩) h.1.symm h.2.symm
        · cases h
      · cases h
    · cases h
  · rename_i e b hu
    have hu' := und_some hu (by simp)
    split at h
    · rename_i hu8
      have he := isU8_some hu8
      simp only [Option.some.injEq, Prod.mk.injEq] at h
      obtain ⟨rfl, rfl⟩ := h
      have := hv.str
      subst this
      let cap := (Question.appendCap b.length 0 e).cut (K.w.tape K.w.drawn (.appendCap b.length 0 e))
      let arr : Array Value := (b.map fun x => Value.int .u8 x.toNat).toArray ++ Array.replicate (cap - b.length) (.int .u8 0)
      let w1 : World := (K.w.drew.alloc (.cells arr e)).freeze ⟨K.w.heap.size, arr.size, none⟩ 1
      have hcap : b.length ≤ cap := by simp [cap, Question.cut]
      have hrun : (convert s d (.string ⟨⟨b⟩⟩)).run C.P K.w = .ok (.slice (some ⟨K.w.heap.size, 0, none⟩) b.length cap) w1 := by
        have hsz : (⟨⟨b⟩⟩ : ByteArray).size = b.length := rfl
        have hq : ∀ n, (Question.appendCap n 0 e).forced = false := fun n => rfl
        have harr : Array.map (fun b => Value.int .u8 b.toNat) (⟨⟨b⟩⟩ : ByteArray).data ++ Array.replicate (cap - b.length) (.int .u8 0) = arr := by simp [arr]
        have hshape : (K.w.drew.alloc (.cells arr e)).shape? K.w.heap.size = some (e, arr.size) := by
          unfold World.shape?
          rw [show K.w.heap.size = K.w.drew.heap.size from rfl, heap_alloc_new]
        have hc : (Conv.stringToBytes e ⟨⟨b⟩⟩).run C.P K.w = .ok (.slice (some ⟨K.w.heap.size, 0, none⟩) b.length cap) w1 := by
          simp only [Conv.stringToBytes, Sem.run_bind, run_choose, hsz, hq, Bool.false_eq_true, if_false, Result.andThen_ok, newRow, run_newObj, Sem.run_pure, markStringish, run_shape]
          rw [show (Question.appendCap b.length 0 e).cut (K.w.tape K.w.drawn (.appendCap b.length 0 e)) = cap from rfl, harr]
          have e1 : ({ heap := K.w.heap.push (.cells arr e), tape := K.w.tape, drawn := K.w.drawn + 1, os := K.w.os, output := K.w.output } : World) = K.w.drew.alloc (.cells arr e) := rfl
          rw [e1, hshape]
          simp only [Sem.run_bind, run_freeze, Result.andThen_ok, Sem.run_pure]
          rfl
        simp only [convert, Sem.run_bind, run_und hds, run_und hu', Result.andThen_ok]
        cases ds <;> simp only [Sem.run_bind, run_und he, Result.andThen_ok, hc]
      have hheap : ∀ k, k ≠ K.w.heap.size → w1.heap[k]? = (K.w.drew.alloc (.cells arr e)).heap[k]? := by
        intro k hk
        simp only [w1, World.freeze]
        rw [if_neg (by decide)]
        simp only [Array.getElem?_modify]
        rw [if_neg (Ne.symm hk)]
      have hsize : w1.heap.size = K.w.heap.size + 1 := by
        simp only [w1, World.freeze]
        rw [if_neg (by decide)]
        simp
      have hcell : ∀ j, w1.cell? ⟨K.w.heap.size, j, none⟩ = arr[j]? := by
        intro j
        simp only [w1, World.freeze]
        rw [if_neg (by decide)]
        simp only [World.cell?, Array.getElem?_modify, if_true]
        rw [show K.w.heap.size = K.w.drew.heap.size from rfl, heap_alloc_new]
        simp
      have hos : w1.os = K.w.os ∧ w1.tape = K.w.tape ∧ w1.output = K.w.output := by
        simp only [w1, World.freeze]
        rw [if_neg (by decide)]
        exact ⟨rfl, rfl, rfl⟩
      obtain ⟨hI', hE⟩ := Inv.world (w' := w1) hI (by omega) hos.1 hos.2.1 hos.2.2 (fun k hk => .inl (by rw [hheap k (by omega)]; exact heap_alloc_old K.w.drew _ hk))
      refine ⟨_, w1, hrun, rfl, hI', hE, ?_⟩
      simp only [VRel, V1Rel, SRel, RV, plen]
      refine ⟨_, cap, rfl, ⟨hcap, by simp, by simp, by simp⟩, fun a ha hn => ?_⟩
      simp only [Option.some.injEq] at ha
      subst ha
      refine ⟨rfl, ⟨hI.new _ (Nat.le_refl _), fun ho => ?_, by simp only [hsize]; omega⟩, ?_⟩
      · have := (hI.own _ (hE.own _ ?_ ho)).1
        · simp at this
        · obtain ⟨o, ob, h1, h2, h3⟩ := ho
          exact absurd (hI.own _ ⟨o, ob, h1, h2, h3⟩).1 (by simp)
      · simp only [RP]
        intro j x hx
        rw [Nat.zero_add, hcell]
        have hj := (List.getElem?_eq_some_iff.1 hx).1
        simp only [arr]
        rw [Array.getElem?_append_left (by simpa using hj)]
        simp [hx]
    · cases h
  · rename_i e p hu
    have hu' := und_some hu (by simp)
    split at h
    · rename_i hc
      obtain ⟨rfl, hu8, hn⟩ := hc
      have he := isU8_some hu8
      simp only [Option.some.injEq, Prod.mk.injEq] at h
      obtain ⟨rfl, rfl⟩ := h
      have hv0 := hv
      simp only [VRel, V1Rel, SRel, RV] at hv
      obtain ⟨ad, cap, rfl, hs, hr⟩ := hv
      obtain ⟨⟨b, off, sp⟩, rfl⟩ := Option.isSome_iff_exists.1 (hs.2.2.1 (by decide))
      obtain ⟨h1, h2, h3⟩ := hr _ rfl hn
      simp only at h1 h2 h3
      subst h1
      have hmark : ∃ w1, (markStringish ⟨b, off, none⟩).run C.P K.w = .ok () w1 ∧ w1.heap.size = K.w.heap.size ∧ w1.os = K.w.os ∧ w1.tape = K.w.tape ∧ w1.output = K.w.output ∧
          (∀ k, k ≠ b → w1.heap[k]? = K.w.heap[k]?) ∧ ∀ j, w1.cell? ⟨b, j, none⟩ = K.w.cell? ⟨b, j, none⟩ := by
        unfold markStringish
        simp only [Sem.run_bind, run_shape, Result.andThen_ok]
        cases hsh : K.w.shape? b with
        | none => exact ⟨K.w, by simp, rfl, rfl, rfl, rfl, fun _ _ => rfl, fun _ => rfl⟩
        | some x =>
          obtain ⟨ty, n⟩ := x
          refine ⟨K.w.freeze ⟨b, n, none⟩ 1, by simp, ?_⟩
          simp only [World.freeze]
          rw [if_neg (by decide)]
          refine ⟨by simp, rfl, rfl, rfl, fun k hk => ?_, fun j => ?_⟩
          · simp only [Array.getElem?_modify]; rw [if_neg (Ne.symm hk)]
          · simp only [World.cell?, Array.getElem?_modify, if_true]
            cases K.w.heap[b]? with
            | none => rfl
            | some o => cases o <;> rfl
      obtain ⟨w1, hm1, hm2, hm3, hm4, hm5, hm6, hm7⟩ := hmark
      obtain ⟨hI', hE⟩ := Inv.world (w' := w1) hI (by omega) hm3 hm4 hm5 (fun k hk => by
        by_cases e' : k = b
        · subst e'; exact .inr ⟨h2.2.1, h2.1, hm7⟩
        · exact .inl (hm6 k e'))
      refine ⟨_, w1, ?_, rfl, hI', hE, VRel.evo hE (Nat.le_refl _) hv0⟩
      simp [convert, run_und hu', run_und he, hm1]
    · cases h
  · cases h

end Go.AM

/- New objects. -/
namespace Go.AM

theorem alloc_new (w : World) (o : Go.Obj) : (w.alloc o).heap[w.heap.size]? = some o := Go.heap_alloc_new w o
theorem alloc_old (w : World) (o : Go.Obj) {b : Nat} (h : b < w.heap.size) : (w.alloc o).heap[b]? = w.heap[b]? := Go.heap_alloc_old w o h

theorem PRel.pos {K : Kx} {T : Nat → Nat → Prop} {p : AV} {r : Nat → Option Value} (h : PRel K T p r) : 0 < pesz p ∧ isPm p = false := by
  cases p <;> simp_all [PRel, GP, pesz, isPm]

theorem newBox_ok {C : Ctx} {K : Kx} {T : Nat → Nat → Prop} (hI : Inv C K T) {p : AV} {cs : Array Value} (hp : PRel K T p (fun j => cs[j]?)) (hs : cs.size = cellsLen p) (E : TypeId) :
    ∃ μ', Inv C ⟨μ', (newBox K.H p).2, K.w.alloc (.cells cs E)⟩ T ∧ Evo T K.H.length K ⟨μ', (newBox K.H p).2, K.w.alloc (.cells cs E)⟩ ∧
      VRel ⟨μ', (newBox K.H p).2, K.w.alloc (.cells cs E)⟩ T (newBox K.H p).1 (.pointer (some ⟨K.w.heap.size, 0, none⟩)) := by
  obtain ⟨hpos, hpm⟩ := hp.pos
  obtain ⟨μ', h1, h2, h3⟩ := Inv.push (w' := K.w.alloc (.cells cs E)) hI ⟨p, 0, some (plen p), 1, false, hasIdsP p, 0⟩ ⟨K.w.heap.size, 0, plen p⟩ (by simp) rfl rfl rfl (fun b hb => alloc_old _ _ hb)
    (fun _ => ⟨Nat.le_refl _, by simp⟩) (by
      intro μ' hold hm hE
      have hsh : ShapeOk (μ' K.H.length) ⟨p, 0, some (plen p), 1, false, hasIdsP p, 0⟩ := by
        rw [hm]
        exact ⟨Nat.le_refl _, fun c hc => by simpa using hc.symm, fun _ => rfl, fun h => by simp at h⟩
      have hcl : CellsOk ⟨μ', K.H ++ [some ⟨p, 0, some (plen p), 1, false, hasIdsP p, 0⟩], K.w.alloc (.cells cs E)⟩ T (μ' K.H.length) ⟨p, 0, some (plen p), 1, false, hasIdsP p, 0⟩ := by
        rw [hm]
        intro hc
        refine ⟨cs, E, alloc_new _ _, by simp [hs, cellsLen], hpos, ?_⟩
        unfold PayOk
        simp only [Nat.zero_add]
        split
        · exact PRel.imp (fun _ _ => SRel.evo hE (Nat.le_refl _)) hp
        · rename_i hid
          cases p <;> simp_all [hasIdsP, PRel, GP, RP]
      unfold ObjOk
      split
      · rename_i heq; simp only at heq; rw [heq] at hpm; simp [isPm] at hpm
      · exact ⟨hsh, hcl⟩)
  refine ⟨μ', h2, h3, ?_⟩
  simp only [newBox, VRel, V1Rel, SRel]
  refine ⟨by simp, rfl, fun ob hob => ?_⟩
  have : ob = ⟨p, 0, some (plen p), 1, false, hasIdsP p, 0⟩ := by simpa using hob.symm
  subst this
  refine ⟨Nat.le_refl _, fun _ => ⟨hpm, ?_⟩⟩
  rw [h1]
  simp

theorem boxOf_ok {K : Kx} {T : Nat → Nat → Prop} {x p : AV} {v : Value} (hv : VRel K T x v) (h : boxOf x = some p) : PRel K T p (fun j => v.cells[j]?) ∧ v.cells.size = cellsLen p := by
  unfold boxOf at h
  split at h
  · simp only [Option.some.injEq] at h
    subst h
    simp only [VRel, V1Rel] at hv
    obtain ⟨cs, rfl, h1, h2⟩ := hv
    exact ⟨h2, h1⟩
  · split at h
    · rename_i hs
      simp only [Option.some.injEq] at h
      subst h
      have h1 := SRel.of_v hs hv
      have h2 := SRel.cell hs h1
      have h3 : v.cells = #[v] := by cases v <;> first | rfl | (simp [Value.oneCell'] at h2)
      rw [h3]
      refine ⟨?_, rfl⟩
      simp only [PRel, GP]
      intro j a ha
      cases j with
      | zero => simp at ha; subst ha; exact ⟨v, rfl, h2, h1⟩
      | succ j => simp at ha
    · cases h

theorem run_newVar {P : Program} {w : World} (t : TypeId) (v : Value) : (newVar t v).run P w = .ok ⟨w.heap.size, 0, none⟩ (w.alloc (.cells v.cells t)) := by
  simp [newVar, newRow]

theorem zero_ok {C : Ctx} {K : Kx} {T : Nat → Nat → Prop} {t : TypeId} {p : AV} (h : zeroAV C t = p) (hp : p ≠ .top) : ∃ z, (zeroValue t).run C.P K.w = .ok z K.w ∧ VRel K T p z ∧ (∃ i, C.P.info? t = some i ∧ i.zero = some z) := by
  unfold zeroAV at h
  split at h
  · rename_i z hz
    subst h
    cases hi : C.P.info? t with
    | none => rw [hi] at hz; simp at hz
    | some i =>
      rw [hi] at hz
      simp at hz
      exact ⟨z, by simp [zeroValue, typeInfo, hi, hz], ofVal_v t z, i, rfl, hz⟩
  · exact absurd h.symm hp

theorem allocOp_ok {C : Ctx} {K : Kx} {T : Nat → Nat → Prop} (hI : Inv C K T) {t : TypeId} {p : AV} (h : boxOf (zeroAV C t) = some p) :
    ∃ u w' μ', (Instr.alloc t true (.tuple #[])).run C.P K.w = .ok u w' ∧ Inv C ⟨μ', (newBox K.H p).2, w'⟩ T ∧ Evo T K.H.length K ⟨μ', (newBox K.H p).2, w'⟩ ∧ VRel ⟨μ', (newBox K.H p).2, w'⟩ T (newBox K.H p).1 u := by
  have hne : zeroAV C t ≠ .top := by intro h0; rw [h0] at h; simp [boxOf, scalar] at h
  obtain ⟨z, h1, h2, _⟩ := zero_ok (K := K) (T := T) rfl hne
  obtain ⟨h3, h4⟩ := boxOf_ok h2 h
  obtain ⟨μ', h5, h6, h7⟩ := newBox_ok hI h3 h4 t
  exact ⟨_, _, μ', by simp [Instr.alloc, h1, run_newVar], h5, h6, h7⟩

theorem boxOp_ok {C : Ctx} {K : Kx} {T : Nat → Nat → Prop} (hI : Inv C K T) {t : TypeId} {x p : AV} {v : Value} (hv : VRel K T x v) (h : boxOf x = some p) :
    ∃ u w' μ', (Instr.box t v).run C.P K.w = .ok u w' ∧ Inv C ⟨μ', (newBox K.H p).2, w'⟩ T ∧ Evo T K.H.length K ⟨μ', (newBox K.H p).2, w'⟩ ∧ VRel ⟨μ', (newBox K.H p).2, w'⟩ T (newBox K.H p).1 u := by
  obtain ⟨h3, h4⟩ := boxOf_ok hv h
  obtain ⟨μ', h5, h6, h7⟩ := newBox_ok hI h3 h4 t
  exact ⟨_, _, μ', by simp [Instr.box, run_newVar], h5, h6, h7⟩

/-- a row in a new block -/
theorem pushRow {C : Ctx} {K : Kx} {T : Nat → Nat → Prop} (hI : Inv C K T) (ob : Obj) {w' : World} {cs : Array Value} {E : TypeId} {cap : Nat} (hrow : ob.row = true) (hg : ob.g = 0)
    (hz : ob.z = 0 → plen ob.p ≠ 0) (hpm : isPm ob.p = false)
    (hw : w'.heap.size = K.w.heap.size + 1) (hos : w'.os = K.w.os) (htape : w'.tape = K.w.tape) (hout : w'.output = K.w.output)
    (hnew : w'.heap[K.w.heap.size]? = some (.cells cs E (0, 0))) (hold : ∀ b, b < K.w.heap.size → w'.heap[b]? = K.w.heap[b]?)
    (hcap : plen ob.p ≤ cap) (hsz : cap * pesz ob.p ≤ cs.size) (hpos : 0 < pesz ob.p) (hoc : ∀ c, ob.cap = some c → c = cap) (hpay : PayOk K T ob (fun j => cs[j]?)) :
    ∃ μ', Inv C ⟨μ', K.H ++ [some ob], w'⟩ T ∧ Evo T K.H.length K ⟨μ', K.H ++ [some ob], w'⟩ ∧
      VRel ⟨μ', K.H ++ [some ob], w'⟩ T (.sl K.H.length 0 (plen ob.p) 0) (.slice (some ⟨K.w.heap.size, 0, none⟩) (plen ob.p) cap) := by
  obtain ⟨μ', h1, h2, h3⟩ := Inv.push (w' := w') hI ob ⟨K.w.heap.size, 0, cap⟩ (by omega) hos htape hout hold
    (fun _ => ⟨Nat.le_refl _, by simp only [hw]; omega⟩) (by
      intro μ' hold hm hE
      unfold ObjOk
      split
      · rename_i heq; rw [heq] at hpm; simp [isPm] at hpm
      · refine ⟨?_, ?_⟩
        · simp only [hm]
          exact ⟨hcap, hoc, fun h => by simp [hrow] at h, fun h => .inr (hz h)⟩
        · simp only [hm]
          intro hc
          refine ⟨cs, E, hnew, by simpa using hsz, hpos, ?_⟩
          simp only [Nat.zero_add]
          exact PayOk.evo hE (Nat.le_refl _) hpay)
  refine ⟨μ', h2, h3, ?_⟩
  simp only [VRel, V1Rel, SRel]
  refine ⟨by simp, rfl, fun ob' hob => ?_⟩
  have : ob' = ob := by simpa using hob.symm
  subst this
  refine ⟨by omega, fun _ => ⟨hpm, _, _, rfl, by rw [h1]; simp, by omega, fun _ => by rw [h1]; simp, fun h hz0 => ?_, fun _ => rfl⟩⟩
  rw [h1] at h
  simp only at h
  have := hz hz0
  omega

/-- an object with no room -/
theorem pushNone {C : Ctx} {K : Kx} {T : Nat → Nat → Prop} (hI : Inv C K T) (ob : Obj) (hrow : ob.row = true) (hg : ob.g = 0) (hpm : isPm ob.p = false) (hl : plen ob.p = 0) (hoc : ob.cap = none)
    {ad : Option Addr} (h0 : ob.z = 0 → ad = none) (h1 : ob.z ≠ 0 → ad.isSome = true) :
    ∃ μ', Inv C ⟨μ', K.H ++ [some ob], K.w⟩ T ∧ Evo T K.H.length K ⟨μ', K.H ++ [some ob], K.w⟩ ∧
      VRel ⟨μ', K.H ++ [some ob], K.w⟩ T (.sl K.H.length 0 0 0) (.slice ad 0 0) := by
  obtain ⟨μ', h3, h4, h5⟩ := Inv.push (w' := K.w) hI ob ⟨0, 0, 0⟩ (Nat.le_refl _) rfl rfl rfl (fun _ _ => rfl)
    (fun h => by rcases h with h | h <;> simp_all) (by
      intro μ' hold hm hE
      unfold ObjOk
      split
      · rename_i heq; rw [heq] at hpm; simp [isPm] at hpm
      · simp only [hm]
        exact ⟨⟨by omega, fun c hc => by simp [hoc] at hc, fun h => by simp [hrow] at h, fun _ => .inl rfl⟩, fun h => absurd rfl h⟩)
  refine ⟨μ', h4, h5, ?_⟩
  simp only [VRel, V1Rel, SRel]
  refine ⟨by simp, rfl, fun ob' hob => ?_⟩
  have : ob' = ob := by simpa using hob.symm
  subst this
  exact ⟨by omega, fun _ => ⟨hpm, ad, 0, rfl, by rw [h3], by omega, fun h => absurd rfl h, fun _ hz => h0 hz, fun h => by
    rcases h with h | h
    · rw [h3] at h; exact absurd rfl h
    · exact h1 h⟩⟩

theorem assignV_ok {C : Ctx} {K : Kx} {T : Nat → Nat → Prop} (hI : Inv C K T) {t : TypeId} {x : AV} {v : Value} (hv : VRel K T x v) :
    ∃ μ', Inv C ⟨μ', (assignV C K.H t x).2, K.w⟩ T ∧ Evo T K.H.length K ⟨μ', (assignV C K.H t x).2, K.w⟩ ∧ VRel ⟨μ', (assignV C K.H t x).2, K.w⟩ T (assignV C K.H t x).1 v := by
  unfold assignV
  split
  · rename_i e _
    simp only [VRel, V1Rel, SRel, RV, plen] at hv
    obtain ⟨ad, cap, rfl, hs, _⟩ := hv
    obtain ⟨rfl, rfl⟩ := hs.2.1 rfl
    have h1 : isPm (emptyRow C e) = false ∧ plen (emptyRow C e) = 0 := by
      unfold emptyRow; split <;> exact ⟨rfl, rfl⟩
    exact pushNone hI (rowOf (emptyRow C e) none 0) rfl rfl h1.1 h1.2 rfl (fun _ => rfl) (fun h => absurd rfl h)
  · exact ⟨K.μ, hI, Evo.refl T K (Nat.le_refl _), hv⟩

end Go.AM

/- Objects that turn: frozen, stored into. -/
namespace Go.AM

theorem upd_get {H : Heap} {o j : Nat} {x : Option Obj} {ob : Obj} (h : (upd H o x)[j]? = some (some ob)) : (j = o ∧ x = some ob) ∨ (j ≠ o ∧ H[j]? = some (some ob)) := by
  unfold upd at h
  rcases get_set h with ⟨e, h1, _⟩ | ⟨e, h1⟩
  · exact .inl ⟨e.symm, h1.symm⟩
  · exact .inr ⟨Ne.symm e, h1⟩

theorem upd_len (H : Heap) (o : Nat) (x : Option Obj) : (upd H o x).length = H.length := by simp [upd]

theorem Inv.drop {C : Ctx} {K : Kx} {T : Nat → Nat → Prop} (hI : Inv C K T) (o : Nat) : Inv C ⟨K.μ, upd K.H o none, K.w⟩ T ∧ Evo T K.H.length K ⟨K.μ, upd K.H o none, K.w⟩ := by
  have hn : ∀ ob, (upd K.H o none)[o]? ≠ some (some ob) := by
    intro ob h
    rcases upd_get h with ⟨_, h⟩ | ⟨h, _⟩
    · cases h
    · exact h rfl
  refine Inv.turn hI o (by simp [upd_len]) (fun j hj ob h => ?_) (Nat.le_refl _) rfl rfl rfl (fun _ _ _ => .inl rfl) (fun ob h => absurd h (hn ob)) (fun _ ob h => absurd h (hn ob)) (fun _ ob h => absurd h (hn ob))
  rcases upd_get h with ⟨e, _⟩ | ⟨_, h⟩
  · exact absurd e hj
  · exact ⟨h, rfl⟩

theorem live_lt {H : Heap} {o g : Nat} {ob : Obj} (h : live H o g = some ob) : o < H.length := (List.getElem?_eq_some_iff.1 (live_iff.1 h).1).1

/-- a handle's rows, of an object without ids -/
theorem SlOk.ro {C : Ctx} {K : Kx} {T : Nat → Nat → Prop} (hI : Inv C K T) {o off len g : Nat} {ob : Obj} {v : Value} {p : AV} (hob : live K.H o g = some ob) (hids : ¬ ob.ids = true)
    (hs : SlOk (K.μ o) ob off len v) (hp : psub ob.p off len = some p) :
    ∃ ad cap, v = .slice ad (plen p) cap ∧ RoShape (if ob.z = 0 ∧ plen ob.p = 0 then 0 else 2) (plen p) ad cap ∧
      ∀ a, ad = some a → plen p ≠ 0 → a.spot = none ∧ a.block = (K.μ o).blk ∧ Real ob (K.μ o) ∧ RP K.w (NT K T ob.tg) p (fun j => K.w.cell? ⟨a.block, a.off + j, none⟩) := by
  obtain ⟨hpm, ad, cap, rfl, h1, h2, h3, h4, h5⟩ := hs
  obtain ⟨h6, h7⟩ := live_iff.1 hob
  obtain ⟨hsh, hcl⟩ := (hI.obj o ob h6).open hpm
  have hlen := psub_len hp
  refine ⟨ad, cap, by rw [hlen], ⟨by rw [hlen]; have := hsh.1; omega, fun hc => ?_, fun hc => ?_, fun hc => ?_⟩, fun a ha hn => ?_⟩
  · have hz : ob.z = 0 ∧ plen ob.p = 0 := by
      split at hc
      · assumption
      · cases hc
    have hC : (K.μ o).cap = 0 := by
      rcases hsh.2.2.2 hz.1 with h | h
      · exact h
      · exact absurd hz.2 h
    exact ⟨h4 hC hz.1, by omega⟩
  · have hz : ¬ (ob.z = 0 ∧ plen ob.p = 0) := by
      intro h; rw [if_pos h] at hc; exact hc rfl
    by_cases hz0 : ob.z = 0
    · have : plen ob.p ≠ 0 := fun h => hz ⟨hz0, h⟩
      exact h5 (.inl (by have := hsh.1; omega))
    · exact h5 (.inr hz0)
  · split at hc <;> cases hc
  · have hcap : cap ≠ 0 := by have := hsh.1; omega
    have := h3 hcap
    rw [this] at ha
    simp only [Option.some.injEq] at ha
    subst ha
    have hpl : plen ob.p ≠ 0 := by omega
    have hpay := obj_pay hI hob hpm hpl
    unfold PayOk at hpay
    rw [if_neg hids] at hpay
    refine ⟨rfl, rfl, .inr (by omega), RP_GP.2 ?_⟩
    have := (GP.sub (RP_GP.1 hpay) hp).1
    simp only [← Nat.add_assoc] at this
    exact this

theorem freezeV_ok {C : Ctx} {K : Kx} {T : Nat → Nat → Prop} (hI : Inv C K T) {x y : AV} {v : Value} {H' : Heap} (hv : SRel K T x v) (h : freezeV K.H x = some (y, H')) :
    Inv C ⟨K.μ, H', K.w⟩ T ∧ Evo T K.H.length K ⟨K.μ, H', K.w⟩ ∧ H'.length = K.H.length ∧ SRel ⟨K.μ, H', K.w⟩ T y v := by
  unfold freezeV at h
  split at h
  · rename_i o off len g
    split at h
    · rename_i ob hob
      split at h
      · cases h
      · rename_i hids
        split at h
        · rename_i p hp
          simp only [Option.some.injEq, Prod.mk.injEq] at h
          obtain ⟨rfl, rfl⟩ := h
          obtain ⟨hI', hE⟩ := Inv.drop hI o
          refine ⟨hI', hE, upd_len _ _ _, ?_⟩
          simp only [SRel] at hv
          obtain ⟨h1, h2⟩ := live_iff.1 hob
          obtain ⟨ad, cap, rfl, h3, h4⟩ := SlOk.ro hI hob hids ((hv.2.2 ob h1).2 h2) hp
          simp only [SRel, RV]
          refine ⟨ad, cap, rfl, h3, fun a ha hn => ?_⟩
          obtain ⟨h5, h6, h7, h8⟩ := h4 a ha hn
          have hO : Own K a.block := ⟨o, ob, h1, h7, h6.symm⟩
          obtain ⟨h9, h10⟩ := hI.own _ hO
          refine ⟨h5, ⟨hI.mono _ _ h10, ?_, h9⟩, ?_⟩
          · rintro ⟨j, ob', hj, hr, hb⟩
            rcases upd_get hj with ⟨_, e⟩ | ⟨hne, hj⟩
            · cases e
            · exact hne (hI.inj j o ob' ob hj h1 hr h7 (hb.trans h6))
          · exact RP_mono (fun b hb => NT.evo hE hb) _ _ _ (fun _ _ h => h) h8
        · cases h
    · cases h
  · simp only [Option.some.injEq, Prod.mk.injEq] at h
    obtain ⟨rfl, rfl⟩ := h
    exact ⟨hI, Evo.refl T K (Nat.le_refl _), rfl, hv⟩

theorem freezeV_shape {H H' : Heap} {x y : AV} (h : freezeV H x = some (y, H')) : (∃ o off len g c p t, x = .sl o off len g ∧ y = .ro c p t) ∨ (y = x ∧ H' = H) := by
  unfold freezeV at h
  split at h
  · split at h
    · split at h
      · cases h
      · split at h
        · simp only [Option.some.injEq, Prod.mk.injEq] at h
          obtain ⟨rfl, _⟩ := h
          exact .inl ⟨_, _, _, _, _, _, _, rfl, rfl⟩
        · cases h
    · cases h
  · simp only [Option.some.injEq, Prod.mk.injEq] at h
    exact .inr ⟨h.1.symm, h.2.symm⟩

theorem freezeL_ok {C : Ctx} {T : Nat → Nat → Prop} : ∀ {l l' : List AV} {K : Kx} {H' : Heap} {r : Nat → Value}, Inv C K T → (∀ (j : Nat) (a : AV), l[j]? = some a → SRel K T a (r j)) → freezeL K.H l = some (l', H') →
    Inv C ⟨K.μ, H', K.w⟩ T ∧ Evo T K.H.length K ⟨K.μ, H', K.w⟩ ∧ H'.length = K.H.length ∧ l'.length = l.length ∧ ∀ (j : Nat) (a : AV), l'[j]? = some a → SRel ⟨K.μ, H', K.w⟩ T a (r j)
  | [], l', K, H', r, hI, hr, h => by
    simp only [freezeL, Option.some.injEq, Prod.mk.injEq] at h
    obtain ⟨rfl, rfl⟩ := h
    exact ⟨hI, Evo.refl T K (Nat.le_refl _), rfl, rfl, by simp⟩
  | a :: t, l', K, H', r, hI, hr, h => by
    simp only [freezeL] at h
    split at h
    · rename_i a' H1 h1
      obtain ⟨i1, e1, n1, s1⟩ := freezeV_ok hI (hr 0 a rfl) h1
      split at h
      · rename_i t' H2 h2
        simp only [Option.some.injEq, Prod.mk.injEq] at h
        obtain ⟨rfl, rfl⟩ := h
        have := freezeL_ok (K := ⟨K.μ, H1, K.w⟩) (r := fun j => r (j + 1)) i1 (fun j b hb => SRel.evo e1 (Nat.le_refl _) (hr (j + 1) b (by simpa using hb))) h2
        obtain ⟨i2, e2, n2, m2, s2⟩ := this
        refine ⟨i2, Evo.trans e1 e2 (by show K.H.length ≤ H1.length; omega), n2.trans n1, by simp [m2], fun j b hb => ?_⟩
        cases j with
        | zero => simp at hb; subst hb; exact SRel.evo e2 (Nat.le_refl _) s1
        | succ j => exact s2 j b (by simpa using hb)
      · cases h
    · cases h

theorem freezeP_ok {C : Ctx} {K : Kx} {T : Nat → Nat → Prop} (hI : Inv C K T) {x y : AV} {v : Value} {H' : Heap} (hv : V1Rel K T x v) (h : freezeP K.H x = some (y, H')) :
    Inv C ⟨K.μ, H', K.w⟩ T ∧ Evo T K.H.length K ⟨K.μ, H', K.w⟩ ∧ H'.length = K.H.length ∧ V1Rel ⟨K.μ, H', K.w⟩ T y v := by
  unfold freezeP at h
  split at h
  · rename_i l
    split at h
    · rename_i l' H1 h1
      simp only [Option.some.injEq, Prod.mk.injEq] at h
      obtain ⟨rfl, rfl⟩ := h
      simp only [V1Rel] at hv ⊢
      obtain ⟨cs, rfl, h2, h3⟩ := hv
      simp only [PRel, GP] at h3
      obtain ⟨i1, e1, n1, m1, s1⟩ := freezeL_ok (r := fun j => cs.getD j undef) hI (fun j a ha => by
        obtain ⟨v, h4, _, h5⟩ := h3 j a ha
        simp only [Array.getD_eq_getD_getElem?, h4]
        exact h5) h1
      refine ⟨i1, e1, n1, cs, rfl, by simpa [cellsLen, plen, pesz, m1] using h2, ?_⟩
      simp only [PRel, GP]
      intro j a ha
      have hj := (List.getElem?_eq_some_iff.1 ha).1
      have hj' : j < l.length := by omega
      obtain ⟨v, h4, h5, _⟩ := h3 j l[j] (List.getElem?_eq_getElem hj')
      have := s1 j a ha
      simp only [Array.getD_eq_getD_getElem?, h4] at this
      exact ⟨v, h4, h5, this⟩
    · cases h
  · rcases freezeV_shape h with ⟨o, off, len, g, c, p, t, rfl, rfl⟩ | ⟨rfl, rfl⟩
    · simp only [V1Rel] at hv ⊢
      exact freezeV_ok hI hv h
    · exact ⟨hI, Evo.refl T K (Nat.le_refl _), rfl, hv⟩

end Go.AM

/- Stores. -/
namespace Go.AM

theorem splice_get {l c : List AV} {i j : Nat} (h : i + c.length ≤ l.length) : (splice l i c)[j]? = if i ≤ j ∧ j < i + c.length then c[j - i]? else l[j]? := by
  unfold splice
  have h1 : (l.take i).length = i := by simp; omega
  by_cases hj : j < i
  · rw [if_neg (by omega), List.append_assoc, List.getElem?_append_left (by omega), List.getElem?_take, if_pos hj]
  · rw [List.append_assoc, List.getElem?_append_right (by omega), h1]
    by_cases hj2 : j < i + c.length
    · rw [if_pos (by omega), List.getElem?_append_left (by omega)]
    · rw [if_neg (by omega), List.getElem?_append_right (by omega), List.getElem?_drop]
      congr 1; omega

theorem splice_len {l c : List AV} {i : Nat} (h : i + c.length ≤ l.length) : (splice l i c).length = l.length := by
  unfold splice; simp; omega

section
variable {S : AV → Value → Prop}

theorem flat_rel (hS : ∀ k n, S (.int k n) (.int k n)) {q : AV} {c : List AV} {r : Nat → Option Value} (h : GP S q r) (hc : flatCells q = some c) :
    c.length = cellsLen q ∧ ∀ (j : Nat) (a : AV), c[j]? = some a → ∃ v, r j = some v ∧ v.oneCell' = true ∧ S a v := by
  cases q <;> simp only [flatCells, Option.some.injEq, reduceCtorEq] at hc <;> subst hc <;> simp only [GP] at h
  case pb l =>
    refine ⟨by simp [cellsLen, plen, pesz], fun j a ha => ?_⟩
    simp only [List.getElem?_map, Option.map_eq_some_iff] at ha
    obtain ⟨b, hb, rfl⟩ := ha
    exact ⟨_, h j b hb, rfl, hS _ _⟩
  case pi k l =>
    refine ⟨by simp [cellsLen, plen, pesz], fun j a ha => ?_⟩
    simp only [List.getElem?_map, Option.map_eq_some_iff] at ha
    obtain ⟨b, hb, rfl⟩ := ha
    exact ⟨_, h j b hb, rfl, hS _ _⟩
  case pc l => exact ⟨by simp [cellsLen, plen, pesz], h⟩

/-- the reading with a row of cells laid over it from k on -/
def over (r : Nat → Option Value) (k : Nat) (vs : List Value) : Nat → Option Value := fun j => if k ≤ j ∧ j < k + vs.length then vs[j - k]? else r j

theorem psetA_rel (hS : ∀ k n, S (.int k n) (.int k n)) {p q p' : AV} {i f : Nat} {r : Nat → Option Value} {vs : List Value} (hp : GP S p r) (hq : GP S q (fun j => vs[j]?)) (hl : vs.length = cellsLen q)
    (h : psetA p i f q = some p') :
    GP S p' (over r (i * pesz p + f) vs) ∧ plen p' = plen p ∧ pesz p' = pesz p ∧ i * pesz p + f + vs.length ≤ plen p * pesz p := by
  have whole : ∀ {q : AV}, GP S q (fun j => vs[j]?) → vs.length = cellsLen q → i = 0 → f = 0 → plen q = plen p → pesz q = pesz p →
      GP S q (over r (i * pesz p + f) vs) ∧ plen q = plen p ∧ pesz q = pesz p ∧ i * pesz p + f + vs.length ≤ plen p * pesz p := by
    rintro q hq hl rfl rfl h1 h2
    refine ⟨GP.within hq fun j u hj hu => ?_, h1, h2, by rw [hl, cellsLen, h1, h2]; omega⟩
    have := (List.getElem?_eq_some_iff.1 hu).1
    simp only [over]
    rw [if_pos (by omega)]
    simpa using hu
  unfold psetA at h
  split at h
  · split at h
    · rename_i hc
      simp only [Option.some.injEq] at h; subst h
      exact whole hq hl hc.1 hc.2.1 (by simp [plen, hc.2.2]) rfl
    · cases h
  · split at h
    · rename_i hc
      simp only [Option.some.injEq] at h; subst h
      exact whole hq hl hc.2.1 hc.2.2.1 (by simp [plen, hc.2.2.2]) rfl
    · cases h
  · split at h
    · rename_i hc
      simp only [Option.some.injEq] at h; subst h
      exact whole hq hl hc.2.1 hc.2.2.1 (by simp [plen, hc.2.2.2]) (by simp [pesz, hc.1])
    · cases h
  · rename_i e l _
    split at h
    · rename_i c cs hc hcs
      split at h
      · rename_i hle
        simp only [Option.some.injEq] at h; subst h
        obtain ⟨hcl, hcr⟩ := flat_rel hS hq hc
        simp only [GP, plen, pesz] at hp ⊢
        have hi := (List.getElem?_eq_some_iff.1 hcs).1
        obtain ⟨cs', e1, e2, h3⟩ := hp.2 _ _ hcs
        simp only [AV.pc.injEq] at e1; subst e1
        have hle2 : i * e + f + vs.length ≤ l.length * e := by
          have : (i + 1) * e ≤ l.length * e := Nat.mul_le_mul_right _ hi
          rw [Nat.succ_mul] at this
          omega
        refine ⟨⟨hp.1, fun j b hb => ?_⟩, by simp, trivial, hle2⟩
        rcases get_set hb with ⟨e', rfl, _⟩ | ⟨e', hb⟩
        · subst e'
          refine ⟨_, rfl, by rw [splice_len hle.1]; exact e2, fun k x hk => ?_⟩
          rw [splice_get hle.1] at hk
          split at hk
          · rename_i hk2
            obtain ⟨u, h4, h5⟩ := hcr _ _ hk
            refine ⟨u, ?_, h5⟩
            simp only [over]
            rw [if_pos (by omega), ← h4]
            congr 1; omega
          · rename_i hk2
            obtain ⟨u, h4, h5⟩ := h3 k x hk
            refine ⟨u, ?_, h5⟩
            simp only [over]
            rw [if_neg (by omega)]
            exact h4
        · obtain ⟨cs', e1, e2', h4⟩ := hp.2 _ _ hb
          refine ⟨cs', e1, e2', fun k x hk => ?_⟩
          obtain ⟨u, h5, h6⟩ := h4 k x hk
          refine ⟨u, ?_, h6⟩
          simp only [over]
          rw [if_neg ?_]
          · exact h5
          · have hk' := (List.getElem?_eq_some_iff.1 hk).1
            rintro ⟨h7, h8⟩
            have hlt : j * e + k < (i + 1) * e := by rw [Nat.succ_mul]; omega
            have hge : i * e ≤ j * e + k := by omega
            have d1 : (j * e + k) / e = j := by rw [Nat.mul_comm j e, Nat.mul_add_div hp.1, Nat.div_eq_of_lt (by omega)]; omega
            have d2 : (j * e + k) / e < i + 1 := (Nat.div_lt_iff_lt_mul hp.1).2 hlt
            have d3 : i ≤ (j * e + k) / e := (Nat.le_div_iff_mul_le hp.1).2 hge
            omega
      · cases h
    · cases h
  · rename_i l q _
    split at h
    · rename_i c hc
      split at h
      · rename_i hle
        simp only [Option.some.injEq] at h; subst h
        obtain ⟨hcl, hcr⟩ := flat_rel hS hq hc
        simp only [GP, plen, pesz, Nat.mul_one] at hp ⊢
        refine ⟨fun j a ha => ?_, splice_len hle.1, trivial, by omega⟩
        rw [splice_get hle.1] at ha
        split at ha
        · rename_i hk
          obtain ⟨u, h4, h5⟩ := hcr _ _ ha
          refine ⟨u, ?_, h5⟩
          simp only [over]
          rw [if_pos (by omega), ← h4]
        · rename_i hk
          obtain ⟨u, h4, h5⟩ := hp j a ha
          refine ⟨u, ?_, h5⟩
          simp only [over]
          rw [if_neg (by omega)]
          exact h4
      · cases h
    · cases h
  · cases h

theorem putV_rel (hS : ∀ k n, S (.int k n) (.int k n)) (hS' : ∀ k n u, S (.int k n) u → u = .int k n) {C : Ctx} {ob : Obj} {t : TypeId} {i f : Nat} {x p' : AV} {r : Nat → Option Value} {v : Value} (hp : GP S ob.p r)
    (hx : (∃ q, x = .agg q ∧ GP S q (fun j => v.cells[j]?) ∧ v.cells.size = cellsLen q) ∨ (scalar x = true ∧ S x v ∧ v.oneCell' = true)) (h : putV C ob t i f x = some p') :
    GP S p' (over r (i * pesz ob.p + f) v.cells.toList) ∧ plen p' = plen ob.p ∧ pesz p' = pesz ob.p ∧ i * pesz ob.p + f + v.cells.size ≤ plen ob.p * pesz ob.p ∧ v.cells.size = sizeT C t ∧
      (∀ u ∈ v.cells.toList, u.oneCell' = true) ∧ ∃ d, C.P.underlying t = some d := by
  rcases hx with ⟨q, rfl, hq, hl⟩ | ⟨hs, h1, h2⟩
  · simp only [putV] at h
    split at h
    · rename_i hc
      have hq' : GP S q (fun j => v.cells.toList[j]?) := by simpa using hq
      obtain ⟨h3, h4, h5, h6⟩ := psetA_rel hS hp hq' (by simpa using hl) h
      refine ⟨h3, h4, h5, by simpa using h6, hl.trans hc.1, ?_, isAggT_some hc.2.1⟩
      intro u hu
      obtain ⟨j, hj⟩ := List.getElem?_of_mem hu
      have hlt := (List.getElem?_eq_some_iff.1 hj).1
      have hcl : v.cells.toList.length = cellsLen q := by simpa using hl
      rw [cellsLen] at hcl
      obtain ⟨u', h7, h8⟩ := GP.has hq' j (by omega)
      rw [hj] at h7
      simp only [Option.some.injEq] at h7
      rw [h7]; exact h8
    · cases h
  · have hc : v.cells = #[v] := by cases v <;> first | rfl | (simp [Value.oneCell'] at h2)
    have hx : ∀ q, x ≠ .agg q := by rintro q rfl; simp [scalar] at hs
    have h' : (if isAggT C t = false ∧ okT C t = true ∧ sizeT C t = 1 ∧ scalar x = true then pset ob.p i f x else none) = some p' := by
      unfold putV at h
      split at h
      · exact absurd rfl (hx _)
      · exact h
    split at h'
    · rename_i hcond
      obtain ⟨h3, h4, h5, h6⟩ := GP.set hS' hp h' h1 h2
      obtain ⟨d, hd, _⟩ := okT_some hcond.2.1
      refine ⟨?_, h4, h5, by rw [hc]; simp; omega, by rw [hc, hcond.2.2.1]; rfl, by rw [hc]; simpa using h2, d, hd⟩
      rw [hc]
      have : over r (i * pesz ob.p + f) #[v].toList = fun j => if j = i * pesz ob.p + f then some v else r j := by
        funext j
        simp only [over]
        by_cases hj : j = i * pesz ob.p + f
        · rw [if_pos (by simp; omega), if_pos hj, hj]; simp
        · rw [if_neg (by simp; omega), if_neg hj]
      rw [this]
      exact h3
    · cases h'

end

theorem run_storeVar {C : Ctx} {w : World} {t : TypeId} {d : TypeDesc} (hu : C.P.underlying t = some d) {b o : Nat} {cur : Array Value} {E : TypeId} {v : Value} (hg : w.heap[b]? = some (.cells cur E (0, 0)))
    (hs : v.cells.size = sizeT C t) (hle : o + v.cells.size ≤ cur.size) (h1 : ∀ u ∈ v.cells.toList, u.oneCell' = true) :
    (storeVar t ⟨b, o, none⟩ v).run C.P w = .ok () (w.setRow b (cur.toList.take o ++ v.cells.toList ++ cur.toList.drop (o + v.cells.size)).toArray) := by
  have := run_storeCells_at C.P b o E v.cells.toList 0 cur w hg (by simpa using hle) h1
  simp only [Nat.add_zero, Array.length_toList] at this
  simp [storeVar, run_sizeOf hu, hs, this]

theorem over_row {cur : Array Value} {o : Nat} {vs : List Value} (hle : o + vs.length ≤ cur.size) (base k : Nat) (hb : base + k = o) (j : Nat) :
    (cur.toList.take o ++ vs ++ cur.toList.drop (o + vs.length)).toArray[base + j]? = over (fun j => cur[base + j]?) k vs j := by
  simp only [over, List.getElem?_toArray]
  have h1 : (cur.toList.take o).length = o := by simp; omega
  by_cases hj : base + j < o
  · rw [if_neg (by omega), List.append_assoc, List.getElem?_append_left (by omega), List.getElem?_take, if_pos hj]
    simp
  · rw [List.append_assoc, List.getElem?_append_right (by omega), h1]
    by_cases hj2 : base + j < o + vs.length
    · rw [if_pos (by omega), List.getElem?_append_left (by omega)]
      congr 1; omega
    · rw [if_neg (by omega), List.getElem?_append_right (by omega), List.getElem?_drop]
      simp only [Array.getElem?_toList]
      congr 1; omega

theorem joinTag_ok {T : Nat → Nat → Prop} (hm : ∀ t b, T 0 b → T t b) {a b r : Nat} (h : joinTag a b = some r) : (∀ x, T a x → T r x) ∧ (∀ x, T b x → T r x) := by
  unfold joinTag at h
  split at h
  · rename_i h0
    simp only [Option.some.injEq] at h; subst h0; subst h
    exact ⟨fun x => hm _ x, fun _ h => h⟩
  · split at h
    · rename_i h0 h1
      simp only [Option.some.injEq] at h; subst h
      rcases h1 with rfl | rfl
      · exact ⟨fun _ h => h, fun x => hm _ x⟩
      · exact ⟨fun _ h => h, fun _ h => h⟩
    · cases h

theorem joinTags_ok {T : Nat → Nat → Prop} (hm : ∀ t b, T 0 b → T t b) : ∀ {l : List Nat} {r : Nat}, joinTags l = some r → ∀ t ∈ l, ∀ x, T t x → T r x
  | [], r, _, t, ht => by simp at ht
  | a :: l, r, h, t, ht => by
    simp only [joinTags] at h
    cases hl : joinTags l with
    | none => rw [hl] at h; cases h
    | some r' =>
      rw [hl] at h
      obtain ⟨h1, h2⟩ := joinTag_ok hm (show joinTag a r' = some r from h)
      rcases List.mem_cons.1 ht with rfl | ht
      · exact h1
      · exact fun x hx => h2 x (joinTags_ok hm hl t ht x hx)

theorem idsL_mem : ∀ {l : List AV} {a : AV}, a ∈ l → ∀ x, x ∈ ids a → x ∈ idsL l
  | [], a, h, _, _ => by simp at h
  | b :: l, a, h, x, hx => by
    simp only [idsL, List.mem_append]
    rcases List.mem_cons.1 h with rfl | h
    · exact .inl hx
    · exact .inr (idsL_mem h x hx)

theorem tagsL_mem : ∀ {l : List AV} {a : AV}, a ∈ l → ∀ x, x ∈ tags a → x ∈ tagsL l
  | [], a, h, _, _ => by simp at h
  | b :: l, a, h, x, hx => by
    simp only [tagsL, List.mem_append]
    rcases List.mem_cons.1 h with rfl | h
    · exact .inl hx
    · exact .inr (tagsL_mem h x hx)

/-- a cell without ids is only read -/
theorem SRel.rv {K : Kx} {T : Nat → Nat → Prop} {a : AV} {v : Value} {tg : Nat} (h : SRel K T a v) (hi : ∀ x, x ∉ ids a) (ht : ∀ t ∈ tags a, ∀ x, T t x → T tg x) : RV K.w (NT K T tg) a v := by
  cases a
  case ptr o i f g => exact absurd (by simp [ids]) (hi o)
  case sl o i f g => exact absurd (by simp [ids]) (hi o)
  case map o g => exact absurd (by simp [ids]) (hi o)
  case ro c p t => exact RV_mono (fun b hb => ⟨⟨ht t (by simp [tags]) b hb.1, hb.2⟩, fun _ _ h => h⟩) _ _ h
  all_goals
    simp only [SRel] at h
    exact RV_mono (fun _ h => False.elim h) _ _ h

theorem GP.rv {K : Kx} {T : Nat → Nat → Prop} {p : AV} {r : Nat → Option Value} {tg : Nat} (h : GP (SRel K T) p r) (hi : ∀ x, x ∉ ids p) (ht : ∀ t ∈ tags p, ∀ x, T t x → T tg x) : GP (RV K.w (NT K T tg)) p r := by
  cases p <;> simp only [GP] at h ⊢ <;> try exact h
  case pc l =>
    intro j a ha
    obtain ⟨v, h1, h2, h3⟩ := h j a ha
    have hm := List.mem_of_getElem? ha
    exact ⟨v, h1, h2, h3.rv (fun x hx => hi x (by simp only [ids]; exact idsL_mem hm x hx)) (fun t ht' => ht t (by simp only [tags]; exact tagsL_mem hm t ht'))⟩
  case pr e l =>
    refine ⟨h.1, fun j a ha => ?_⟩
    obtain ⟨cs, rfl, h1, h2⟩ := h.2 j a ha
    have hm := List.mem_of_getElem? ha
    refine ⟨cs, rfl, h1, fun k b hb => ?_⟩
    obtain ⟨v, h3, h4, h5⟩ := h2 k b hb
    have hm2 := List.mem_of_getElem? hb
    exact ⟨v, h3, h4, h5.rv (fun x hx => hi x (by simp only [ids]; exact idsL_mem hm x (by simp only [ids]; exact idsL_mem hm2 x hx)))
      (fun t ht' => ht t (by simp only [tags]; exact tagsL_mem hm t (by simp only [tags]; exact tagsL_mem hm2 t ht')))⟩

/-- one object's cells turned in place -/
theorem Inv.store {C : Ctx} {K : Kx} {T : Nat → Nat → Prop} (hI : Inv C K T) {o g : Nat} {ob : Obj} {p' : AV} {tg : Nat} {cur : Array Value} {E : TypeId} {k : Nat} {vs : List Value} (hob : live K.H o g = some ob)
    (hpm : isPm ob.p = false) (hpm' : isPm p' = false) (hlen : plen p' = plen ob.p) (hesz : pesz p' = pesz ob.p) (hk : k + vs.length ≤ plen ob.p * pesz ob.p) (hC : (K.μ o).cap ≠ 0)
    (hg : K.w.heap[(K.μ o).blk]? = some (.cells cur E (0, 0))) (hcur : (K.μ o).base + (K.μ o).cap * pesz ob.p ≤ cur.size)
    (hpay : PayOk K T { ob with p := p', tg := tg } (over (fun j => cur[(K.μ o).base + j]?) k vs)) :
    Inv C ⟨K.μ, upd K.H o (some { ob with p := p', tg := tg }), K.w.setRow (K.μ o).blk (cur.toList.take ((K.μ o).base + k) ++ vs ++ cur.toList.drop ((K.μ o).base + k + vs.length)).toArray⟩ T ∧
      Evo T K.H.length K ⟨K.μ, upd K.H o (some { ob with p := p', tg := tg }), K.w.setRow (K.μ o).blk (cur.toList.take ((K.μ o).base + k) ++ vs ++ cur.toList.drop ((K.μ o).base + k + vs.length)).toArray⟩ := by
  obtain ⟨h1, h2⟩ := live_iff.1 hob
  obtain ⟨hsh, hcl⟩ := (hI.obj o ob h1).open hpm
  have hlt := (List.getElem?_eq_some_iff.1 h1).1
  have hle : plen ob.p * pesz ob.p ≤ (K.μ o).cap * pesz ob.p := Nat.mul_le_mul_right _ hsh.1
  have hfit : (K.μ o).base + k + vs.length ≤ cur.size := by omega
  have hO : Own K (K.μ o).blk := ⟨o, ob, h1, .inr hC, rfl⟩
  have heq : ∀ ob', (upd K.H o (some { ob with p := p', tg := tg }))[o]? = some (some ob') → ob' = { ob with p := p', tg := tg } := by
    intro ob' h
    rcases upd_get h with ⟨_, h⟩ | ⟨h, _⟩
    · simpa using h.symm
    · exact absurd rfl h
  refine Inv.turn hI o (by simp [upd_len]) (fun j hj ob' h => ?_) (by simp) rfl rfl rfl (fun b hb hf => .inl ?_) (fun ob' h hr => ?_) (fun _ ob' h => ?_) (fun hE ob' h => ?_)
  · rcases upd_get h with ⟨e, _⟩ | ⟨_, h⟩
    · exact absurd e hj
    · exact ⟨h, rfl⟩
  · exact setRow_other _ _ _ _ (Ne.symm (hf ob h1 (.inr hC)))
  · exact ⟨.inl ⟨ob, h1, .inr hC, rfl⟩, by simpa using (hI.own _ hO).1⟩
  · have := heq ob' h; subst this
    exact ⟨ob, h1, Nat.le_refl _, fun _ => ⟨rfl, hesz, hlen, rfl, by simp [hpm, hpm']⟩⟩
  · have := heq ob' h; subst this
    unfold ObjOk
    split
    · rename_i heq'; simp only at heq'; rw [heq'] at hpm'; simp [isPm] at hpm'
    · refine ⟨⟨by simp only [hlen]; exact hsh.1, hsh.2.1, fun hr => by simp only [hlen]; exact hsh.2.2.1 hr, fun hz => by simp only [hlen]; exact hsh.2.2.2 hz⟩, fun _ => ?_⟩
      refine ⟨_, E, setRow_heap _ _ _ _ _ _ hg, ?_, ?_, ?_⟩
      · simp only [hesz, List.size_toArray, List.length_append, List.length_take, List.length_drop, Array.length_toList]
        omega
      · simp only [hesz]
        obtain ⟨_, _, _, _, h5, _⟩ := hcl hC
        exact h5
      · have : (fun j => (cur.toList.take ((K.μ o).base + k) ++ vs ++ cur.toList.drop ((K.μ o).base + k + vs.length)).toArray[(K.μ o).base + j]?) = over (fun j => cur[(K.μ o).base + j]?) k vs := by
          funext j
          exact over_row hfit _ _ rfl j
        rw [this]
        exact PayOk.evo hE (Nat.le_refl _) hpay

theorem flat_len {q : AV} {c : List AV} (hc : flatCells q = some c) : c.length = cellsLen q := by
  cases q <;> simp only [flatCells, Option.some.injEq, reduceCtorEq] at hc <;> subst hc <;> simp [cellsLen, plen, pesz]

theorem putV_len {C : Ctx} {ob : Obj} {t : TypeId} {i f : Nat} {x p' : AV} (h : putV C ob t i f x = some p') : plen ob.p ≠ 0 := by
  unfold putV at h
  split at h
  · rename_i q
    split at h
    · rename_i hc
      intro h0
      have hq : cellsLen q ≠ 0 := by rw [hc.1]; exact hc.2.2
      unfold psetA at h
      split at h
      · split at h
        · rename_i hl; simp_all [plen, cellsLen]; omega
        · cases h
      · split at h
        · rename_i hl; simp_all [plen, cellsLen]; omega
        · cases h
      · split at h
        · rename_i hl; simp_all [plen, cellsLen]; omega
        · cases h
      · split at h
        · rename_i hcs
          have := (List.getElem?_eq_some_iff.1 hcs).1
          simp_all [plen]
        · cases h
      · split at h
        · rename_i hcs
          split at h
          · rename_i hl
            have := flat_len hcs
            simp_all [plen]
          · cases h
        · cases h
      · cases h
    · cases h
  · split at h
    · unfold pset at h
      split at h
      · split at h
        · rename_i hl; intro h0; simp_all [plen]
        · cases h
      · split at h
        · rename_i hl; intro h0; simp_all [plen]
        · cases h
      · split at h
        · rename_i hl; intro h0; simp_all [plen]
        · cases h
      · split at h
        · rename_i hcs
          have := (List.getElem?_eq_some_iff.1 hcs).1
          intro h0
          simp_all [plen]
        · cases h
      · cases h
    · cases h

theorem hx_of {K : Kx} {T : Nat → Nat → Prop} {C : Ctx} {ob : Obj} {t : TypeId} {i f : Nat} {x p' : AV} {v : Value} (h : putV C ob t i f x = some p') (hv : VRel K T x v) :
    (∃ q, x = .agg q ∧ GP (SRel K T) q (fun j => v.cells[j]?) ∧ v.cells.size = cellsLen q) ∨ (scalar x = true ∧ SRel K T x v ∧ v.oneCell' = true) := by
  unfold putV at h
  split at h
  · rename_i q
    simp only [VRel, V1Rel] at hv
    obtain ⟨cs, rfl, h1, h2⟩ := hv
    exact .inl ⟨q, rfl, h2, h1⟩
  · split at h
    · rename_i hc
      have := SRel.of_v hc.2.2.2 hv
      exact .inr ⟨hc.2.2.2, this, this.cell hc.2.2.2⟩
    · cases h

theorem storeV_ok {C : Ctx} {K : Kx} {T : Nat → Nat → Prop} (hI : Inv C K T) {t : TypeId} {a x : AV} {va vx : Value} {H' : Heap} (ha : VRel K T a va) (hx : VRel K T x vx) (h : storeV C K.H t a x = some H') :
    ∃ w', (Instr.storeAt t va vx).run C.P K.w = .ok () w' ∧ Inv C ⟨K.μ, H', w'⟩ T ∧ Evo T K.H.length K ⟨K.μ, H', w'⟩ := by
  have put : ∀ {K : Kx} {o i f g : Nat} {ob : Obj} {x p' : AV} {tg : Nat} {S : AV → Value → Prop}, Inv C K T → live K.H o g = some ob → SRel K T (.ptr o i f g) va →
      (∀ k n, S (.int k n) (.int k n)) → (∀ k n u, S (.int k n) u → u = .int k n) → (∀ r, PayOk K T ob r → GP S ob.p r) → (∀ p' r, GP S p' r → PayOk K T { ob with p := p', tg := tg } r) →
      ((∃ q, x = .agg q ∧ GP S q (fun j => vx.cells[j]?) ∧ vx.cells.size = cellsLen q) ∨ (scalar x = true ∧ S x vx ∧ vx.oneCell' = true)) → putV C ob t i f x = some p' →
      ∃ w', (Instr.storeAt t va vx).run C.P K.w = .ok () w' ∧ Inv C ⟨K.μ, upd K.H o (some { ob with p := p', tg := tg }), w'⟩ T ∧ Evo T K.H.length K ⟨K.μ, upd K.H o (some { ob with p := p', tg := tg }), w'⟩ := by
    intro K o i f g ob x p' tg S hI hob hv hS hS' hpay hpay' hx hput
    simp only [SRel] at hv
    obtain ⟨h1, h2⟩ := live_iff.1 hob
    obtain ⟨hpm, rfl⟩ := (hv.2.2 ob h1).2 h2
    obtain ⟨hsh, hcl⟩ := (hI.obj o ob h1).open hpm
    have hsz0 : vx.cells.size ≠ 0 → plen ob.p ≠ 0 → (K.μ o).cap ≠ 0 := fun _ h => by have := hsh.1; omega
    by_cases hn : plen ob.p = 0
    · -- nothing can be laid into an empty payload but nothing
      exact absurd hn (putV_len hput)
    · have hC : (K.μ o).cap ≠ 0 := by have := hsh.1; omega
      obtain ⟨cur, E, h3, h4, h5, h6⟩ := hcl hC
      obtain ⟨h7, h8, h9, h10, h11, h12, d, hd⟩ := putV_rel hS hS' (hpay _ h6) hx hput
      have hpm' : isPm p' = false := by
        cases p' <;> simp_all [GP, isPm]
      have := Inv.store (T := T) (p' := p') (tg := tg) (k := i * pesz ob.p + f) (vs := vx.cells.toList) hI hob hpm hpm' h8 h9 (by simpa using h10) hC h3 h4 (hpay' _ _ h7)
      refine ⟨_, ?_, this⟩
      have hle : plen ob.p * pesz ob.p ≤ (K.μ o).cap * pesz ob.p := Nat.mul_le_mul_right _ hsh.1
      simp only [Instr.storeAt, Instr.sureAddr, Sem.run_bind, Sem.run_pure, Result.andThen_ok]
      have := run_storeVar hd (o := (K.μ o).base + i * pesz ob.p + f) h3 h11 (by omega) h12
      rw [this]
      simp only [Array.length_toList, ← Nat.add_assoc]
  unfold storeV at h
  split at h
  · rename_i o i f g
    split at h
    · cases h
    · rename_i ob hob
      split at h
      · rename_i hids
        simp only [Option.map_eq_some_iff] at h
        obtain ⟨p', hp', rfl⟩ := h
        have hsx := hx_of hp' hx
        obtain ⟨w', h1, h2, h3⟩ := put (tg := ob.tg) (S := SRel K T) hI hob (by simpa [VRel, V1Rel] using ha) (SRel.int_self K T) (fun k n u h => by simpa [SRel, RV] using h)
          (fun r h => by unfold PayOk at h; rwa [if_pos hids] at h) (fun p' r h => by unfold PayOk; rw [if_pos (by exact hids)]; exact h) hsx hp'
        exact ⟨w', h1, h2, h3⟩
      · rename_i hids
        split at h
        · cases h
        · rename_i x1 H1 hfr
          split at h
          · cases h
          · rename_i ob1 hob1
            split at h
            · rename_i hemp
              split at h
              · cases h
              · rename_i tv htv
                split at h
                · cases h
                · rename_i tg htg
                  simp only [Option.map_eq_some_iff] at h
                  obtain ⟨p', hp', rfl⟩ := h
                  have hvx : V1Rel K T x vx := by
                    cases x <;> first | (simpa only [VRel] using hx) | skip
                    case tup l =>
                      simp only [freezeP, freezeV, Option.some.injEq, Prod.mk.injEq] at hfr
                      obtain ⟨rfl, rfl⟩ := hfr
                      simp [putV, scalar] at hp'
                  obtain ⟨i1, e1, n1, s1⟩ := freezeP_ok hI hvx hfr
                  have hx1 : VRel ⟨K.μ, H1, K.w⟩ T x1 vx := by
                    cases x1 <;> first | (simpa only [VRel] using s1) | skip
                    case tup l => simp [V1Rel, SRel, RV] at s1
                  have hids1 : ob1.ids ≠ true := by rw [hemp.2]; decide
                  have hall : ∀ y, y ∉ ids x1 := by
                    intro y hy
                    have : ids x1 = [] := by simpa using hemp.1
                    rw [this] at hy; cases hy
                  obtain ⟨j1, j2⟩ := joinTag_ok hI.mono htg
                  have jt : ∀ t ∈ tags x1, ∀ y, T t y → T tg y := fun t ht y hy => j2 y (joinTags_ok hI.mono htv t ht y hy)
                  have hsx : (∃ q, x1 = .agg q ∧ GP (RV K.w (NT ⟨K.μ, H1, K.w⟩ T tg)) q (fun j => vx.cells[j]?) ∧ vx.cells.size = cellsLen q) ∨ (scalar x1 = true ∧ RV K.w (NT ⟨K.μ, H1, K.w⟩ T tg) x1 vx ∧ vx.oneCell' = true) := by
                    rcases hx_of hp' hx1 with ⟨q, rfl, h3, h4⟩ | ⟨h3, h4, h5⟩
                    · exact .inl ⟨q, rfl, GP.rv h3 (by simpa only [ids] using hall) (by simpa only [tags] using jt), h4⟩
                    · exact .inr ⟨h3, h4.rv hall jt, h5⟩
                  obtain ⟨w', h3, h4, h5⟩ := put (K := ⟨K.μ, H1, K.w⟩) (tg := tg) (S := RV K.w (NT ⟨K.μ, H1, K.w⟩ T tg)) i1 hob1 (SRel.evo e1 (Nat.le_refl _) (by simpa [VRel, V1Rel] using ha)) (fun k n => by simp [RV]) (fun k n u h => by simpa [RV] using h)
                    (fun r h => by
                      unfold PayOk at h; rw [if_neg hids1] at h
                      exact RP_GP.1 (RP_mono (fun b hb => ⟨⟨j1 b hb.1, hb.2⟩, fun _ _ h => h⟩) _ _ _ (fun _ _ h => h) h))
                    (fun p' r h => by unfold PayOk; rw [if_neg (by exact hids1)]; exact RP_GP.2 h) hsx hp'
                  exact ⟨w', h3, h4, Evo.trans e1 h5 (by show K.H.length ≤ H1.length; omega)⟩
            · cases h
  · cases h

end Go.AM

/- append. -/
namespace Go.AM

section
variable {P : Program} {w : World}

theorem run_append_none {t xt ty e : TypeId} {i : TypeInfo} {dx : TypeDesc} (ht : P.underlying t = some (.slice e)) (hx : P.underlying xt = some dx) (hxi : ∀ k, dx ≠ .int k) (hi : P.info? e = some i)
    {ts : Array TypeId} {vs : Array Value} (h0 : ts[0]? = some t) (h1 : ts[1]? = some xt) {sLen sCap m : Nat} {x : Value} {news : List Value} (hv0 : vs[0]? = some (.slice none sLen sCap)) (hv1 : vs[1]? = some x)
    (hlen : (Builtin.lenOf x).run P w = .ok m w) (hf : (Builtin.firstCells i.size m x).run P w = .ok news.toArray w) (hroom : sLen + m ≤ sCap) :
    (Builtin.append_ ts ty vs).run P w = .ok (.slice none (sLen + m) sCap) w := by
  have hm : ∀ (b : Bool), (match dx with | .int _ => true | _ => b) = b := fun b => by cases dx <;> first | rfl | exact absurd rfl (hxi _)
  simp [Builtin.append_, h0, h1, hv0, hv1, run_und ht, run_und hx, hm, sizeOf, typeInfo, hi, hlen, hroom, hf]

theorem run_append_in {t xt ty e : TypeId} {i : TypeInfo} {dx : TypeDesc} (ht : P.underlying t = some (.slice e)) (hx : P.underlying xt = some dx) (hxi : ∀ k, dx ≠ .int k) (hi : P.info? e = some i)
    {ts : Array TypeId} {vs : Array Value} (h0 : ts[0]? = some t) (h1 : ts[1]? = some xt) {g o sLen sCap m : Nat} {x : Value} {news : List Value} (hv0 : vs[0]? = some (.slice (some ⟨g, o, none⟩) sLen sCap)) (hv1 : vs[1]? = some x)
    (hlen : (Builtin.lenOf x).run P w = .ok m w) (hf : (Builtin.firstCells i.size m x).run P w = .ok news.toArray w) (hroom : sLen + m ≤ sCap)
    {cur : Array Value} {E : TypeId} (hg : w.heap[g]? = some (.cells cur E (0, 0))) (hfit : o + sLen * i.size + news.length ≤ cur.size) (hone : ∀ u ∈ news, u.oneCell' = true) :
    (Builtin.append_ ts ty vs).run P w = .ok (.slice (some ⟨g, o, none⟩) (sLen + m) sCap)
      (w.setRow g (cur.toList.take (o + sLen * i.size) ++ news ++ cur.toList.drop (o + sLen * i.size + news.length)).toArray) := by
  have hm : ∀ (b : Bool), (match dx with | .int _ => true | _ => b) = b := fun b => by cases dx <;> first | rfl | exact absurd rfl (hxi _)
  have hst := run_storeCells_at P g (o + sLen * i.size) E news 0 cur w hg (by simpa using hfit) hone
  simp only [Nat.add_zero] at hst
  simp [Builtin.append_, h0, h1, hv0, hv1, run_und ht, run_und hx, hm, sizeOf, typeInfo, hi, hlen, hroom, hf, add_lit, hst]

theorem run_append_new {t xt ty e : TypeId} {i : TypeInfo} {z : Value} {dx : TypeDesc} (ht : P.underlying t = some (.slice e)) (hx : P.underlying xt = some dx) (hxi : ∀ k, dx ≠ .int k) (hi : P.info? e = some i) (hz : i.zero = some z)
    {ts : Array TypeId} {vs : Array Value} (h0 : ts[0]? = some t) (h1 : ts[1]? = some xt) {base : Option Addr} {sLen sCap m : Nat} {x : Value} {olds news : List Value} (hv0 : vs[0]? = some (.slice base sLen sCap)) (hv1 : vs[1]? = some x)
    (hlen : (Builtin.lenOf x).run P w = .ok m w) (hf : (Builtin.firstCells i.size m x).run P w.drew = .ok news.toArray w.drew)
    (hfo : (Builtin.firstCells i.size sLen (.slice base sLen sCap)).run P w.drew = .ok olds.toArray w.drew) (hroom : sCap < sLen + m)
    (h63 : sLen + m ≤ 4611686018427387904) (hb : (sLen + m) * i.bytes ≤ 140737488355328) :
    (Builtin.append_ ts ty vs).run P w = .ok (.slice (some ⟨w.heap.size, 0, none⟩) (sLen + m) (grownCap w (sLen + m) sCap e))
        (w.drew.alloc (.cells (olds.toArray ++ news.toArray ++ Builtin.zeroCells z.cells (grownCap w (sLen + m) sCap e - (sLen + m))) e)) := by
  have hm : ∀ (b : Bool), (match dx with | .int _ => true | _ => b) = b := fun b => by cases dx <;> first | rfl | exact absurd rfl (hxi _)
  have hn : ¬ (sLen + m ≤ sCap) := by omega
  have h63' : ¬ (9223372036854775807 < ((sLen : Int) + (m : Int))) := by omega
  have hfit := growslice_fits hroom hb
  have h48' : ¬ (281474976710656 < Builtin.nextslicecap (sLen + m) sCap * i.bytes) := by omega
  simp [Builtin.append_, h0, h1, hv0, hv1, run_und ht, run_und hx, hm, sizeOf, typeInfo, zeroValue, hi, hz, hlen, hn, h63', h48', Question.forced, hf, hfo, newRow, grownCap]
  congr 2
  apply Array.ext'
  simp [List.append_assoc]

theorem run_append_nothing {t xt ty e : TypeId} {i : TypeInfo} {dx : TypeDesc} (ht : P.underlying t = some (.slice e)) (hx : P.underlying xt = some dx) (hxi : ∀ k, dx ≠ .int k) (hi : P.info? e = some i)
    {ts : Array TypeId} {vs : Array Value} (h0 : ts[0]? = some t) (h1 : ts[1]? = some xt) {base : Option Addr} {sLen sCap : Nat} {x : Value} (hv0 : vs[0]? = some (.slice base sLen sCap)) (hv1 : vs[1]? = some x)
    (hlen : (Builtin.lenOf x).run P w = .ok 0 w) (hf : (Builtin.firstCells i.size 0 x).run P w = .ok #[] w) (hroom : sLen ≤ sCap) :
    (Builtin.append_ ts ty vs).run P w = .ok (.slice base sLen sCap) w := by
  have hm : ∀ (b : Bool), (match dx with | .int _ => true | _ => b) = b := fun b => by cases dx <;> first | rfl | exact absurd rfl (hxi _)
  cases base <;> simp [Builtin.append_, h0, h1, hv0, hv1, run_und ht, run_und hx, hm, sizeOf, typeInfo, hi, hlen, hroom, hf, storeCells]

end

theorem papp_esz {p q s : AV} (h : papp p q = some s) (hn : plen q ≠ 0) : pesz s = pesz q := by
  unfold papp at h
  split at h
  · simp only [Option.some.injEq] at h; subst h; rfl
  · split at h
    · simp only [Option.some.injEq] at h; subst h; rfl
    · cases h
  · simp only [Option.some.injEq] at h; subst h; rfl
  · split at h
    · rename_i he; simp only [Option.some.injEq] at h; subst h; exact he
    · cases h
  · exact absurd rfl hn
  · simp only [Option.some.injEq] at h; subst h; rfl
  · cases h

theorem firstCells_zero {P : Program} {w : World} (size : Nat) (a : Option Addr) (l c : Nat) : (Builtin.firstCells size 0 (.slice a l c)).run P w = .ok #[] w := by
  cases a <;> simp [Builtin.firstCells, loadCells, loadCellsFrom]

theorem payB_nil {S : AV → Value → Prop} {p : AV} (h : payB p = true) (h0 : plen p = 0) : LP S p [] := by
  cases p <;> simp only [payB, Bool.false_eq_true] at h <;> simp only [plen] at h0 <;> simp_all [LP, GP, plen, pesz]
  omega

theorem ptag_RP {K : Kx} {T : Nat → Nat → Prop} {p : AV} {t : Nat} {r : Nat → Option Value} (h : RP K.w (NT K T t) p r) : GP (RV K.w (NT K T (ptag p t))) p r := by
  cases p <;> simp only [ptag] <;> first | exact RP_GP.1 h | (simp only [RP] at h; simp only [GP]; exact h)

/-- what is appended -/
theorem srcV_ok {C : Ctx} {K : Kx} {T : Nat → Nat → Prop} (hI : Inv C K T) {x ys : AV} {tx : Nat} {v : Value} (hv : VRel K T x v) (h : srcV K.H x = some (ys, tx)) :
    ∃ news, LP (RV K.w (NT K T tx)) ys news ∧ (∀ u ∈ news, u.oneCell' = true) ∧ (∀ P w, (Builtin.lenOf v).run P w = .ok (plen ys) w) ∧
      (∀ size, (plen ys ≠ 0 → size = pesz ys) → ∀ P w', (∀ b off, w'.cell? ⟨b, off, none⟩ = K.w.cell? ⟨b, off, none⟩) → (Builtin.firstCells size (plen ys) v).run P w' = .ok news.toArray w') := by
  have cells : ∀ {p : AV} {a : Option Addr} {cap : Nat} {N : Nat → Prop}, payB p = true → (plen p ≠ 0 → ∃ b off, a = some ⟨b, off, none⟩ ∧ GP (RV K.w N) p (fun j => K.w.cell? ⟨b, off + j, none⟩)) →
      ∃ news, LP (RV K.w N) p news ∧ (∀ u ∈ news, u.oneCell' = true) ∧ (∀ P w, (Builtin.lenOf (.slice a (plen p) cap)).run P w = .ok (plen p) w) ∧
      (∀ size, (plen p ≠ 0 → size = pesz p) → ∀ P w', (∀ b off, w'.cell? ⟨b, off, none⟩ = K.w.cell? ⟨b, off, none⟩) → (Builtin.firstCells size (plen p) (.slice a (plen p) cap)).run P w' = .ok news.toArray w') := by
    intro p a cap N hb hp
    by_cases hn : plen p = 0
    · refine ⟨[], payB_nil hb hn, by simp, fun P w => rfl, fun size _ P w' _ => ?_⟩
      rw [hn]
      exact firstCells_zero _ _ _ _
    · obtain ⟨b, off, rfl, hg⟩ := hp hn
      obtain ⟨news, h1, h2, h3⟩ := GP.list hg
      refine ⟨news, h1, h3, fun P w => rfl, fun size hs P w' hw => ?_⟩
      refine run_firstCells_some (P := P) w' size (plen p) ⟨b, off, none⟩ _ _ news (by rw [h1.2, hs hn]) (fun j u hu => ?_)
      rw [add_lit, hw]
      exact h2 j u hu
  unfold srcV at h
  split at h
  · rename_i s
    simp only [Option.some.injEq, Prod.mk.injEq] at h
    obtain ⟨rfl, rfl⟩ := h
    have := hv.str
    subst this
    refine ⟨s.map fun b => Value.int .u8 b.toNat, ⟨?_, by simp [plen, pesz]⟩, ?_, fun P w => rfl, fun size _ P w' _ => ?_⟩
    · simp only [GP]
      intro j b hb
      simp [hb]
    · intro u hu
      simp only [List.mem_map] at hu
      obtain ⟨b, _, rfl⟩ := hu
      rfl
    · simp only [Builtin.firstCells, Sem.run_pure, plen]
      congr 1
      have : (⟨⟨s⟩⟩ : ByteArray).extract 0 s.length = ⟨⟨s⟩⟩ := by
        apply ByteArray.ext
        rw [ByteArray.data_extract]
        simp
      rw [this]
      simp
  · rename_i c p t
    split at h
    · rename_i hb
      simp only [Option.some.injEq, Prod.mk.injEq] at h
      obtain ⟨rfl, rfl⟩ := h
      simp only [VRel, V1Rel, SRel, RV] at hv
      obtain ⟨ad, cap, rfl, hs, hr⟩ := hv
      refine cells hb fun hn => ?_
      have had : ad.isSome = true := hs.2.2.1 (fun h0 => by have := (hs.2.1 h0).2; have := hs.1; omega)
      obtain ⟨⟨b, off, sp⟩, rfl⟩ := Option.isSome_iff_exists.1 had
      obtain ⟨h1, _, h2⟩ := hr _ rfl hn
      simp only at h1 h2
      subst h1
      exact ⟨b, off, rfl, ptag_RP h2⟩
    · cases h
  · rename_i o off len g
    split at h
    · rename_i ob hob
      split at h
      · cases h
      · rename_i hids
        split at h
        · rename_i p hp
          split at h
          · rename_i hb
            simp only [Option.some.injEq, Prod.mk.injEq] at h
            obtain ⟨rfl, rfl⟩ := h
            simp only [VRel, V1Rel, SRel] at hv
            obtain ⟨h1, h2⟩ := live_iff.1 hob
            obtain ⟨ad, cap, rfl, hs, hr⟩ := SlOk.ro hI hob hids ((hv.2.2 ob h1).2 h2) hp
            refine cells hb fun hn => ?_
            have had : ad.isSome = true := by
              cases ad with
              | some _ => rfl
              | none =>
                exfalso
                have hc : ¬ (ob.z = 0 ∧ plen ob.p = 0) := by
                  intro h0
                  have := (hs.2.1 (by rw [if_pos h0])).2
                  have := hs.1
                  omega
                have := hs.2.2.1 (by rw [if_neg hc]; decide)
                cases this
            obtain ⟨⟨b, off', sp⟩, rfl⟩ := Option.isSome_iff_exists.1 had
            obtain ⟨h3, _, _, h4⟩ := hr _ rfl hn
            simp only at h3 h4
            subst h3
            exact ⟨b, off', rfl, ptag_RP h4⟩
          · cases h
        · cases h
    · cases h
  · cases h

end Go.AM

/- append, on the abstract machine's terms. -/
namespace Go.AM

theorem Inv.become {C : Ctx} {K : Kx} {T : Nat → Nat → Prop} (hI : Inv C K T) {o g : Nat} {ob : Obj} (hob : live K.H o g = some ob) (ob' : Obj) (m : Pl) {w' : World} (hgen : ob.g < ob'.g)
    (hsz : K.w.heap.size ≤ w'.heap.size) (hos : w'.os = K.w.os) (htape : w'.tape = K.w.tape) (hout : w'.output = K.w.output)
    (hold : ∀ b, b < K.w.heap.size → (Real ob (K.μ o) → (K.μ o).blk ≠ b) → w'.heap[b]? = K.w.heap[b]?)
    (hm : Real ob' m → ((Real ob (K.μ o) ∧ (K.μ o).blk = m.blk) ∨ K.w.heap.size ≤ m.blk) ∧ m.blk < w'.heap.size)
    (hob' : ∀ μ', μ' o = m → Evo T K.H.length K ⟨μ', upd K.H o (some ob'), w'⟩ → ObjOk ⟨μ', upd K.H o (some ob'), w'⟩ T o ob') :
    ∃ μ', μ' o = m ∧ Inv C ⟨μ', upd K.H o (some ob'), w'⟩ T ∧ Evo T K.H.length K ⟨μ', upd K.H o (some ob'), w'⟩ := by
  obtain ⟨h1, h2⟩ := live_iff.1 hob
  let μ' : Nat → Pl := fun j => if j = o then m else K.μ j
  have e1 : μ' o = m := by simp [μ']
  have e2 : ∀ j, j ≠ o → μ' j = K.μ j := fun j hj => by simp [μ', hj]
  have heq : ∀ x, (upd K.H o (some ob'))[o]? = some (some x) → x = ob' := by
    intro x h
    rcases upd_get h with ⟨_, h⟩ | ⟨h, _⟩
    · simpa using h.symm
    · exact absurd rfl h
  refine ⟨μ', e1, Inv.turn hI o (by simp [upd_len]) (fun j hj x h => ?_) hsz hos htape hout (fun b hb hf => .inl (hold b hb (hf ob h1))) (fun x h hr => ?_) (fun _ x h => ?_) (fun hE x h => ?_)⟩
  · rcases upd_get h with ⟨e, _⟩ | ⟨_, h⟩
    · exact absurd e hj
    · exact ⟨h, e2 j hj⟩
  · have := heq x h; subst this
    simp only [e1] at hr ⊢
    obtain ⟨h3, h4⟩ := hm hr
    refine ⟨?_, h4⟩
    rcases h3 with ⟨h5, h6⟩ | h5
    · exact .inl ⟨ob, h1, h5, h6⟩
    · exact .inr h5
  · have := heq x h; subst this
    exact ⟨ob, h1, Nat.le_of_lt hgen, fun e => by omega⟩
  · have := heq x h; subst this
    exact hob' μ' e1 hE

theorem grown_facts (w : World) (need old : Nat) (e : TypeId) : need ≤ grownCap w need old e := grownCap_ge w need old e

theorem zeroOk_some {C : Ctx} {e : TypeId} (h : zeroOk C e = true) : ∃ i z, C.P.info? e = some i ∧ i.zero = some z ∧ z.cells.size = sizeT C e ∧ i.size = sizeT C e ∧ i.bytes = bytesT C e := by
  unfold zeroOk at h
  split at h
  · rename_i z hz
    cases hi : C.P.info? e with
    | none => rw [hi] at hz; simp at hz
    | some i =>
      rw [hi] at hz
      simp at hz
      exact ⟨i, z, rfl, hz, by simpa using h, by simp [sizeT, hi], by simp [bytesT, hi]⟩
  · cases h

theorem LP.fore {S : AV → Value → Prop} {p : AV} {cs : List Value} (h : LP S p cs) (rest : Array Value) : GP S p (fun j => (cs.toArray ++ rest)[j]?) := by
  refine GP.imp (fun _ _ h => h) (fun j u hu => ?_) h.1
  have := (List.getElem?_eq_some_iff.1 hu).1
  rw [Array.getElem?_append_left (by simpa using this)]
  simpa using hu

theorem LP.mono {S S' : AV → Value → Prop} {p : AV} {cs : List Value} (hS : ∀ a v, S a v → S' a v) (h : LP S p cs) : LP S' p cs := ⟨GP.imp hS (fun _ _ h => h) h.1, h.2⟩

theorem psub_pay {p q : AV} {lo n : Nat} (h : psub p lo n = some q) (hp : pesz p ≠ 0) : payB q = true := by
  cases p <;> try (simp [psub] at h; done)
  all_goals try simp only [psub] at h
  case pn =>
    cases lo with
    | succ lo => simp at h
    | zero => cases n with
      | succ n => simp at h
      | zero => simp at h; subst h; rfl
  all_goals
    split at h
    · simp only [Option.some.injEq] at h
      subst h
      simp_all [payB, pesz]
    · cases h

set_option maxHeartbeats 4000000 in
theorem appendV_ok {C : Ctx} {K : Kx} {T : Nat → Nat → Prop} (hI : Inv C K T) {t xt ty : TypeId} {s x r : AV} {H' : Heap} {vs vx : Value} {ts : Array TypeId} {args : Array Value} (hs : VRel K T s vs) (hx : VRel K T x vx)
    (h : appendV C K.H t s x = some (r, H')) (h0 : ts[0]? = some t) (h1 : ts[1]? = some xt) (hok : okT C xt = true) (hni : isIntT C xt = false) (ha0 : args[0]? = some vs) (ha1 : args[1]? = some vx) :
    ∃ u w' μ', (Builtin.append_ ts ty args).run C.P K.w = .ok u w' ∧ Inv C ⟨μ', H', w'⟩ T ∧ Evo T K.H.length K ⟨μ', H', w'⟩ ∧ VRel ⟨μ', H', w'⟩ T r u := by
  obtain ⟨dx, hdx, hdx'⟩ := okT_some hok
  have hxi : ∀ k, dx ≠ .int k := by
    rintro k rfl
    unfold isIntT at hni
    rw [hdx'] at hni
    cases hni
  unfold appendV at h
  split at h
  · rename_i e hu
    have hu' := und_some hu (by simp)
    split at h
    · cases h
    · rename_i hcond
      have hsz : sizeT C e ≠ 0 := fun h => hcond (.inl h)
      have hzo : zeroOk C e = true := by
        cases hz : zeroOk C e
        · exact absurd (.inr hz) hcond
        · rfl
      obtain ⟨i, z, hi, hz, hzs, his, hib⟩ := zeroOk_some hzo
      split at h
      · cases h
      · rename_i ys tx hsrc
        obtain ⟨news, hnews, hone, hlen, hcells⟩ := srcV_ok hI hx hsrc
        have hdrew : ∀ b off, K.w.drew.cell? ⟨b, off, none⟩ = K.w.cell? ⟨b, off, none⟩ := fun _ _ => rfl
        split at h
        · rename_i c p tg
          split at h
          · rename_i hc
            obtain ⟨hc1, hpb, hroom⟩ := hc
            obtain ⟨hr1, hr2⟩ := of_decide_eq_true hroom
            simp only [VRel, V1Rel, SRel, RV] at hs
            obtain ⟨ad, cap, rfl, hsh, hrd⟩ := hs
            split at h
            · rename_i hp0
              split at h
              · rename_i q hq
                split at h
                · rename_i hqe
                  simp only [Option.some.injEq, Prod.mk.injEq] at h
                  obtain ⟨rfl, rfl⟩ := h
                  have hcap : cap = 0 := by
                    rcases Nat.lt_or_ge c 1 with h | h
                    · exact (hsh.2.1 (by omega)).2
                    · have := hsh.2.2.2 (by omega); omega
                  subst hcap
                  have hemp : LP (RV K.w (NT K T tx)) (emptyRow C e) [] := by
                    unfold emptyRow
                    split <;> simp [LP, GP, plen, pesz]
                    all_goals omega
                  obtain ⟨hq1, hq2⟩ := LP.app hemp hnews hq
                  simp only [List.nil_append] at hq1
                  have hel : plen (emptyRow C e) = 0 := by unfold emptyRow; split <;> rfl
                  rw [hel, Nat.zero_add] at hq2
                  have hqpm : isPm q = false := by have := hq1.1; cases q <;> simp_all [GP, isPm]
                  by_cases hm : plen ys = 0
                  · have hf := hcells i.size (fun h => absurd hm h) C.P K.w (fun _ _ => rfl)
                    have hn0 : news = [] := by have := hnews.2; rw [hm] at this; simpa using this
                    subst hn0
                    rw [hm] at hf hlen
                    obtain ⟨μ', i1, i2, i3⟩ := pushNone hI ⟨q, 0, none, c, true, false, tx⟩ rfl rfl hqpm (by simp only; omega) rfl (ad := ad) (fun hz => (hsh.2.1 hz).1) (fun hz => hsh.2.2.1 hz)
                    refine ⟨_, _, μ', run_append_nothing (w := K.w) hu' hdx hxi hi h0 h1 ha0 ha1 (hlen C.P K.w) hf (by omega), i1, i2, ?_⟩
                    rw [hm, hp0]
                    exact i3
                  · have hse : i.size = pesz ys := by rw [his, ← hqe]; exact (papp_esz hq hm)
                    have hf := hcells i.size (fun _ => hse) C.P K.w.drew hdrew
                    have hfo : (Builtin.firstCells i.size (plen p) (.slice ad (plen p) 0)).run C.P K.w.drew = .ok ([] : List Value).toArray K.w.drew := by
                      rw [hp0]; exact firstCells_zero _ _ _ _
                    have hrun := run_append_new (w := K.w) (ty := ty) hu' hdx hxi hi hz h0 h1 ha0 ha1 (hlen C.P K.w) hf hfo (by omega) (by omega) (by rw [hib]; omega)
                    obtain ⟨μ', i1, i2, i3⟩ := pushRow (T := T) (w' := K.w.drew.alloc (.cells (([] : List Value).toArray ++ news.toArray ++ Builtin.zeroCells z.cells (grownCap K.w (plen p + plen ys) 0 e - (plen p + plen ys))) e))
                      (cs := ([] : List Value).toArray ++ news.toArray ++ Builtin.zeroCells z.cells (grownCap K.w (plen p + plen ys) 0 e - (plen p + plen ys))) (E := e) (cap := grownCap K.w (plen p + plen ys) 0 e)
                      hI ⟨q, 0, none, c, true, false, tx⟩ rfl rfl (fun _ => by simp only; omega) hqpm (by simp) rfl rfl rfl (alloc_new K.w.drew _) (fun b hb => alloc_old K.w.drew _ hb)
                      (by simp only; rw [hq2]; have := grownCap_ge K.w (plen p + plen ys) 0 e; omega)
                      (by
                        have hg := grownCap_ge K.w (plen p + plen ys) 0 e
                        simp only [Array.size_append, List.size_toArray, List.length_nil, Nat.zero_add, size_zeroCells, hzs, hqe, hnews.2]
                        rw [← hse, his, ← Nat.add_mul, hp0]
                        rw [hp0] at hg
                        apply Nat.mul_le_mul_right
                        omega)
                      (by simp only; omega) (fun c hc => by cases hc)
                      (by
                        unfold PayOk
                        simp only [Bool.false_eq_true, if_false]
                        refine RP_GP.2 ?_
                        have := hq1.fore (Builtin.zeroCells z.cells (grownCap K.w (plen p + plen ys) 0 e - (plen p + plen ys)))
                        simpa using this)
                    refine ⟨_, _, μ', hrun, i1, i2, ?_⟩
                    simp only [hq2] at i3
                    rw [hp0, Nat.zero_add] at i3 ⊢
                    exact i3
                · cases h
              · cases h
            · rename_i hp0
              split at h
              · rename_i hy0
                simp only [Option.some.injEq, Prod.mk.injEq] at h
                obtain ⟨rfl, rfl⟩ := h
                have hf := hcells i.size (fun h => absurd hy0 h) C.P K.w (fun _ _ => rfl)
                have hn0 : news = [] := by have := hnews.2; rw [hy0] at this; simpa using this
                subst hn0
                rw [hy0] at hf hlen
                refine ⟨_, _, K.μ, run_append_nothing (w := K.w) hu' hdx hxi hi h0 h1 ha0 ha1 (hlen C.P K.w) hf hsh.1, hI, Evo.refl T K (Nat.le_refl _), ?_⟩
                simp only [VRel, V1Rel, SRel, RV]
                exact ⟨ad, cap, rfl, hsh, hrd⟩
              · rename_i hy0
                split at h
                · rename_i hpe
                  obtain ⟨hpe, rfl⟩ := hpe
                  split at h
                  · rename_i q tg' hq htg
                    split at h
                    · rename_i hqe
                      simp only [Option.some.injEq, Prod.mk.injEq] at h
                      obtain ⟨rfl, rfl⟩ := h
                      have hcap := hsh.2.2.2 rfl
                      subst hcap
                      obtain ⟨⟨b, off, sp⟩, rfl⟩ := Option.isSome_iff_exists.1 (hsh.2.2.1 (by decide))
                      obtain ⟨r1, r2, r3⟩ := hrd _ rfl hp0
                      simp only at r1 r2 r3
                      subst r1
                      obtain ⟨j1, j2⟩ := joinTag_ok hI.mono htg
                      obtain ⟨olds, ho1, ho2, ho3⟩ := GP.list (ptag_RP r3)
                      have mono : ∀ {t1 : Nat}, (∀ x, T t1 x → T tg' x) → ∀ a v, RV K.w (NT K T t1) a v → RV K.w (NT K T tg') a v := fun hj a v h => RV_mono (fun b hb => ⟨⟨hj b hb.1, hb.2⟩, fun _ _ h => h⟩) a v h
                      obtain ⟨hq1, hq2⟩ := LP.app (ho1.mono (mono j1)) (hnews.mono (mono j2)) hq
                      have hqpm : isPm q = false := by have := hq1.1; cases q <;> simp_all [GP, isPm]
                      have hse : i.size = pesz ys := by rw [his, ← hqe]; exact (papp_esz hq hy0)
                      have hf := hcells i.size (fun _ => hse) C.P K.w.drew hdrew
                      have hfo : (Builtin.firstCells i.size (plen p) (.slice (some ⟨b, off, none⟩) (plen p) (plen p))).run C.P K.w.drew = .ok olds.toArray K.w.drew :=
                        run_firstCells_some (P := C.P) K.w.drew i.size (plen p) ⟨b, off, none⟩ _ _ olds (by rw [ho1.2, hpe, his]) (fun j u hu => by rw [add_lit]; exact ho2 j u hu)
                      have hrun := run_append_new (w := K.w) (ty := ty) hu' hdx hxi hi hz h0 h1 ha0 ha1 (hlen C.P K.w) hf hfo (by omega) (by omega) (by rw [hib]; omega)
                      obtain ⟨μ', i1, i2, i3⟩ := pushRow (T := T) (w' := K.w.drew.alloc (.cells (olds.toArray ++ news.toArray ++ Builtin.zeroCells z.cells (grownCap K.w (plen p + plen ys) (plen p) e - (plen p + plen ys))) e))
                        (cs := olds.toArray ++ news.toArray ++ Builtin.zeroCells z.cells (grownCap K.w (plen p + plen ys) (plen p) e - (plen p + plen ys))) (E := e) (cap := grownCap K.w (plen p + plen ys) (plen p) e)
                        hI ⟨q, 0, none, 1, true, false, tg'⟩ rfl rfl (fun h => by cases h) hqpm (by simp) rfl rfl rfl (alloc_new K.w.drew _) (fun b hb => alloc_old K.w.drew _ hb)
                        (by simp only; rw [hq2]; exact grownCap_ge _ _ _ _)
                        (by
                          have hg := grownCap_ge K.w (plen p + plen ys) (plen p) e
                          simp only [Array.size_append, List.size_toArray, size_zeroCells, hzs, hqe, hnews.2, ho1.2]
                          rw [← hse, his, hpe, ← Nat.add_mul, ← Nat.add_mul]
                          apply Nat.mul_le_mul_right
                          omega)
                        (by simp only; omega) (fun c hc => by cases hc)
                        (by
                          unfold PayOk
                          simp only [Bool.false_eq_true, if_false]
                          refine RP_GP.2 ?_
                          have := hq1.fore (Builtin.zeroCells z.cells (grownCap K.w (plen p + plen ys) (plen p) e - (plen p + plen ys)))
                          simpa using this)
                      refine ⟨_, _, μ', hrun, i1, i2, ?_⟩
                      simp only [hq2] at i3
                      exact i3
                    · cases h
                  · cases h
                · cases h
          · cases h
        · rename_i o off len g
          split at h
          · cases h
          · rename_i ob hob
            split at h
            · rename_i hc
              obtain ⟨hrow, hids, hfront, hpe, hroom⟩ := hc
              obtain ⟨hr1, hr2⟩ := of_decide_eq_true hroom
              split at h
              · cases h
              · rename_i p0 hp0
                split at h
                · rename_i q tg' hq htg
                  split at h
                  · cases h
                  · rename_i hqe0
                    have hqe : pesz q = sizeT C e := by simpa using hqe0
                    simp only [Option.some.injEq, Prod.mk.injEq] at h
                    obtain ⟨rfl, rfl⟩ := h
                    simp only [VRel, V1Rel, SRel] at hs
                    obtain ⟨ho, hg⟩ := live_iff.1 hob
                    obtain ⟨hpm, ad, cap, rfl, s1, s2, s3, s4, s5⟩ := (hs.2.2 ob ho).2 hg
                    obtain ⟨hsh, hcl⟩ := (hI.obj o ob ho).open hpm
                    obtain ⟨j1, j2⟩ := joinTag_ok hI.mono htg
                    have mono : ∀ {t1 : Nat}, (∀ x, T t1 x → T tg' x) → ∀ a v, RV K.w (NT K T t1) a v → RV K.w (NT K T tg') a v := fun hj a v h => RV_mono (fun b hb => ⟨⟨hj b hb.1, hb.2⟩, fun _ _ h => h⟩) a v h
                    have hlen0 := psub_len hp0
                    let ob' : Obj := { ob with p := q, g := g + 1, cap := (match ob.cap with | some c => if off + len + plen ys ≤ c then some (c - off) else none | none => none), z := (if plen ob.p = 0 then ob.z else 1), tg := tg' }
                    have fin : ∀ {K' : Kx} {u : Value} {m : Pl}, K'.H = upd K.H o (some ob') → K'.μ o = m → (∃ ad cap, u = .slice ad (len + plen ys) cap ∧ cap = m.cap ∧ len + plen ys ≤ plen q ∧ (cap ≠ 0 → ad = some ⟨m.blk, m.base, none⟩) ∧ (m.cap = 0 → ob'.z = 0 → ad = none) ∧ (m.cap ≠ 0 ∨ ob'.z ≠ 0 → ad.isSome = true)) →
                        isPm q = false → VRel K' T (.sl o 0 (len + plen ys) (g + 1)) u := by
                      rintro K' u m hH hm ⟨ad, cap, rfl, f1, f2, f3, f4, f5⟩ hqpm
                      simp only [VRel, V1Rel, SRel]
                      refine ⟨by rw [hH, upd_len]; exact hs.1, rfl, fun x hx => ?_⟩
                      rw [hH] at hx
                      have : x = ob' := by
                        rcases upd_get hx with ⟨_, h⟩ | ⟨h, _⟩
                        · simpa using h.symm
                        · exact absurd rfl h
                      subst this
                      refine ⟨Nat.le_refl _, fun _ => ⟨hqpm, ad, cap, rfl, by rw [hm]; omega, by simp only [ob']; omega, fun hc => by rw [f3 hc, hm]; simp, fun hc hz => f4 (by rw [← hm]; exact hc) hz, fun hc => f5 (by rw [← hm]; exact hc)⟩⟩
                    by_cases hC : (K.μ o).cap = 0
                    · -- no room: nothing there, and a new block if anything comes
                      have hpl : plen ob.p = 0 := by have := hsh.1; omega
                      have hl0 : len = 0 := by omega
                      have ho0 : off = 0 := by omega
                      have hcap0 : cap = 0 := by omega
                      subst hl0; subst ho0; subst hcap0
                      have hp0b : LP (RV K.w (NT K T ob.tg)) p0 [] := payB_nil (psub_pay hp0 (by omega)) hlen0
                      obtain ⟨hq1, hq2⟩ := LP.app (hp0b.mono (mono j1)) (hnews.mono (mono j2)) hq
                      simp only [List.nil_append] at hq1
                      rw [hlen0, Nat.zero_add] at hq2
                      have hqpm : isPm q = false := by have := hq1.1; cases q <;> simp_all [GP, isPm]
                      have hz' : ob'.z = ob.z := by simp only [ob', hpl, if_true]
                      by_cases hm : plen ys = 0
                      · have hf := hcells i.size (fun h => absurd hm h) C.P K.w (fun _ _ => rfl)
                        have hn0 : news = [] := by have := hnews.2; rw [hm] at this; simpa using this
                        subst hn0
                        rw [hm] at hf hlen
                        obtain ⟨μ', i0, i1, i2⟩ := Inv.become (T := T) (w' := K.w) hI hob ob' ⟨0, 0, 0⟩ (by simp only [ob']; omega) (Nat.le_refl _) rfl rfl rfl (fun _ _ _ => rfl)
                          (fun h => by rcases h with h | h <;> simp_all [ob'])
                          (fun μ' hμ hE => by
                            unfold ObjOk
                            split
                            · rename_i heq; simp only [ob'] at heq; rw [heq] at hqpm; simp [isPm] at hqpm
                            · simp only [hμ]
                              refine ⟨⟨by simp only [ob']; omega, fun c hc => ?_, fun h => by simp [ob', hrow] at h, fun _ => .inl rfl⟩, fun h => absurd rfl h⟩
                              simp only [ob'] at hc
                              cases hoc : ob.cap with
                              | none => simp [hoc] at hc
                              | some c0 =>
                                have := hsh.2.1 c0 hoc
                                simp only [hoc, hm] at hc
                                rw [if_pos (by omega)] at hc
                                simp only [Option.some.injEq] at hc
                                simp only; omega)
                        refine ⟨_, _, μ', run_append_nothing (w := K.w) hu' hdx hxi hi h0 h1 ha0 ha1 (hlen C.P K.w) hf (by omega), i1, i2, ?_⟩
                        refine fin (m := ⟨0, 0, 0⟩) rfl i0 ⟨ad, 0, by rw [hm], rfl, by omega, fun h => absurd rfl h, fun _ hz0 => s4 hC (by rw [← hz']; exact hz0), fun h => ?_⟩ hqpm
                        rcases h with h | h
                        · exact absurd rfl h
                        · exact s5 (.inr (by rw [← hz']; exact h))
                      · have hse : i.size = pesz ys := by rw [his, ← hqe]; exact (papp_esz hq hm)
                        have hf := hcells i.size (fun _ => hse) C.P K.w.drew hdrew
                        have hfo : (Builtin.firstCells i.size 0 (.slice ad 0 0)).run C.P K.w.drew = .ok ([] : List Value).toArray K.w.drew := firstCells_zero _ _ _ _
                        have hrun := run_append_new (w := K.w) (ty := ty) hu' hdx hxi hi hz h0 h1 ha0 ha1 (hlen C.P K.w) hf hfo (by omega) (by omega) (by rw [hib]; omega)
                        have hgc := grownCap_ge K.w (0 + plen ys) 0 e
                        obtain ⟨μ', i0, i1, i2⟩ := Inv.become (T := T) (w' := K.w.drew.alloc (.cells (([] : List Value).toArray ++ news.toArray ++ Builtin.zeroCells z.cells (grownCap K.w (0 + plen ys) 0 e - (0 + plen ys))) e))
                          hI hob ob' ⟨K.w.heap.size, 0, grownCap K.w (0 + plen ys) 0 e⟩ (by simp only [ob']; omega) (by simp) rfl rfl rfl (fun b hb _ => alloc_old K.w.drew _ hb)
                          (fun _ => ⟨.inr (Nat.le_refl _), by simp⟩)
                          (fun μ' hμ hE => by
                            unfold ObjOk
                            split
                            · rename_i heq; simp only [ob'] at heq; rw [heq] at hqpm; simp [isPm] at hqpm
                            · simp only [hμ]
                              refine ⟨⟨by simp only [ob']; omega, fun c hc => ?_, fun h => by simp [ob', hrow] at h, fun _ => .inr (by simp only [ob']; omega)⟩, fun _ => ⟨_, e, alloc_new K.w.drew _, ?_, by simp only [ob']; omega, ?_⟩⟩
                              · simp only [ob'] at hc
                                cases hoc : ob.cap with
                                | none => simp [hoc] at hc
                                | some c0 =>
                                  have := hsh.2.1 c0 hoc
                                  simp only [hoc] at hc
                                  rw [if_neg (by omega)] at hc
                                  cases hc
                              · simp only [ob', Array.size_append, List.size_toArray, List.length_nil, Nat.zero_add, size_zeroCells, hzs, hqe, hnews.2]
                                rw [← hse, his, ← Nat.add_mul]
                                apply Nat.mul_le_mul_right
                                simp only [Nat.zero_add] at hgc
                                omega
                              · refine PayOk.evo hE (Nat.le_refl _) ?_
                                unfold PayOk
                                rw [if_neg (by simp only [ob', hids]; decide)]
                                refine RP_GP.2 ?_
                                have := hq1.fore (Builtin.zeroCells z.cells (grownCap K.w (0 + plen ys) 0 e - (0 + plen ys)))
                                simpa using this)
                        refine ⟨_, _, μ', hrun, i1, i2, ?_⟩
                        exact fin (m := ⟨K.w.heap.size, 0, grownCap K.w (0 + plen ys) 0 e⟩) rfl i0 ⟨_, _, rfl, rfl, by omega, fun _ => rfl, fun h => by simp only at h; omega, fun _ => rfl⟩ hqpm
                    · obtain ⟨cur, E, c1, c2, c3, c4⟩ := hcl hC
                      unfold PayOk at c4
                      rw [if_neg (by rw [hids]; decide)] at c4
                      have hsub := (GP.sub (RP_GP.1 c4) hp0).1
                      have hpe0 : pesz p0 = sizeT C e := by rw [(GP.sub (RP_GP.1 c4) hp0).2.2.1, hpe]
                      obtain ⟨olds, ho1, ho2, ho3⟩ := GP.list hsub
                      obtain ⟨hq1, hq2⟩ := LP.app (ho1.mono (mono j1)) (hnews.mono (mono j2)) hq
                      rw [hlen0] at hq2
                      have hqpm : isPm q = false := by have := hq1.1; cases q <;> simp_all [GP, isPm]
                      have hol : olds.length = len * sizeT C e := by rw [ho1.2, hlen0, hpe0]
                      have hnl : news.length = plen ys * sizeT C e := by
                        rw [hnews.2]
                        by_cases hm : plen ys = 0
                        · rw [hm]; simp
                        · rw [← papp_esz hq hm, hqe]
                      have hse : plen ys ≠ 0 → i.size = pesz ys := fun hm => by rw [his, ← hqe]; exact (papp_esz hq hm)
                      have hz' : ob'.z ≠ 0 := by
                        simp only [ob']
                        split
                        · rename_i hpl
                          intro hz0
                          rcases hsh.2.2.2 hz0 with h | h
                          · exact hC h
                          · exact h hpl
                        · decide
                      have hoc : ∀ c, ob'.cap = some c → ∃ c0, ob.cap = some c0 ∧ c0 = (K.μ o).cap ∧ off + len + plen ys ≤ c0 ∧ c = c0 - off := by
                        intro c hc
                        simp only [ob'] at hc
                        cases hoc : ob.cap with
                        | none => simp [hoc] at hc
                        | some c0 =>
                          simp only [hoc] at hc
                          split at hc
                          · rename_i hle
                            simp only [Option.some.injEq] at hc
                            exact ⟨c0, rfl, hsh.2.1 c0 hoc, hle, hc.symm⟩
                          · cases hc
                      by_cases hroom2 : len + plen ys ≤ cap
                      · by_cases hcap : cap = 0
                        · have hm : plen ys = 0 := by omega
                          have hl0 : len = 0 := by omega
                          have hf := hcells i.size (fun h => absurd hm h) C.P K.w (fun _ _ => rfl)
                          have hn0 : news = [] := by have := hnews.2; rw [hm] at this; simpa using this
                          subst hn0
                          rw [hm] at hf hlen
                          obtain ⟨μ', i0, i1, i2⟩ := Inv.become (T := T) (w' := K.w) hI hob ob' ⟨0, 0, 0⟩ (by simp only [ob']; omega) (Nat.le_refl _) rfl rfl rfl (fun _ _ _ => rfl)
                            (fun h => by rcases h with h | h <;> simp_all [ob'])
                            (fun μ' hμ hE => by
                              unfold ObjOk
                              split
                              · rename_i heq; simp only [ob'] at heq; rw [heq] at hqpm; simp [isPm] at hqpm
                              · simp only [hμ]
                                refine ⟨⟨by simp only [ob']; omega, fun c hc => ?_, fun h => by simp [ob', hrow] at h, fun _ => .inl rfl⟩, fun h => absurd rfl h⟩
                                obtain ⟨c0, _, h2, _, h4⟩ := hoc c hc
                                simp only; omega)
                          refine ⟨_, _, μ', run_append_nothing (w := K.w) hu' hdx hxi hi h0 h1 ha0 ha1 (hlen C.P K.w) hf (by omega), i1, i2, ?_⟩
                          exact fin (m := ⟨0, 0, 0⟩) rfl i0 ⟨ad, cap, by rw [hm, hl0], hcap, by omega, fun h => absurd hcap h, fun _ hz0 => absurd hz0 hz', fun _ => s5 (.inl hC)⟩ hqpm
                        · have had := s3 hcap
                          subst had
                          have hf := hcells i.size hse C.P K.w (fun _ _ => rfl)
                          have hCe : (off + len + plen ys) * sizeT C e ≤ (K.μ o).cap * sizeT C e := Nat.mul_le_mul_right _ (by omega)
                          rw [hpe] at c2
                          rw [Nat.add_mul, Nat.add_mul] at hCe
                          rw [hpe] at ha0
                          have hrun := run_append_in (w := K.w) (ty := ty) hu' hdx hxi hi h0 h1 ha0 ha1 (hlen C.P K.w) hf hroom2 c1 (by rw [his]; omega) hone
                          have hO : Own K (K.μ o).blk := ⟨o, ob, ho, .inr hC, rfl⟩
                          obtain ⟨μ', i0, i1, i2⟩ := Inv.become (T := T) (w' := K.w.setRow (K.μ o).blk (cur.toList.take ((K.μ o).base + off * sizeT C e + len * i.size) ++ news ++ cur.toList.drop ((K.μ o).base + off * sizeT C e + len * i.size + news.length)).toArray)
                            hI hob ob' ⟨(K.μ o).blk, (K.μ o).base + off * sizeT C e, (K.μ o).cap - off⟩ (by simp only [ob']; omega) (by simp) rfl rfl rfl
                            (fun b hb hne => setRow_other _ _ _ _ (Ne.symm (hne (.inr hC))))
                            (fun _ => ⟨.inl ⟨.inr hC, rfl⟩, by simpa using (hI.own _ hO).1⟩)
                            (fun μ' hμ hE => by
                              unfold ObjOk
                              split
                              · rename_i heq; simp only [ob'] at heq; rw [heq] at hqpm; simp [isPm] at hqpm
                              · simp only [hμ]
                                refine ⟨⟨by simp only [ob']; omega, fun c hc => ?_, fun h => by simp [ob', hrow] at h, fun h => absurd h hz'⟩, fun _ => ⟨_, E, setRow_heap _ _ _ _ _ _ c1, ?_, by simp only [ob']; omega, ?_⟩⟩
                                · obtain ⟨c0, _, h2, _, h4⟩ := hoc c hc
                                  simp only; omega
                                · simp only [ob', hqe, List.size_toArray, List.length_append, List.length_take, List.length_drop, Array.length_toList]
                                  have : ((K.μ o).cap - off) * sizeT C e + off * sizeT C e = (K.μ o).cap * sizeT C e := by rw [← Nat.add_mul]; congr 1; omega
                                  omega
                                · refine PayOk.evo hE (Nat.le_refl _) ?_
                                  unfold PayOk
                                  rw [if_neg (by simp only [ob', hids]; decide)]
                                  refine RP_GP.2 (GP.imp (fun _ _ h => h) (fun j u hu => ?_) hq1.1)
                                  rw [over_row (by rw [his]; omega) ((K.μ o).base + off * sizeT C e) (len * i.size) rfl j]
                                  simp only [over, his]
                                  rcases get_app hu with ⟨hj, hu⟩ | ⟨hj, hu⟩
                                  · rw [if_neg (by omega)]
                                    have := ho2 j u hu
                                    rw [hpe] at this
                                    rw [← this]; congr 1; omega
                                  · have hlt := (List.getElem?_eq_some_iff.1 hu).1
                                    rw [if_pos (by omega), ← hol]
                                    exact hu)
                          refine ⟨_, _, μ', hrun, i1, i2, ?_⟩
                          exact fin (m := ⟨(K.μ o).blk, (K.μ o).base + off * sizeT C e, (K.μ o).cap - off⟩) rfl i0 ⟨_, cap, rfl, by simp only; omega, by omega, fun _ => rfl, fun _ hz0 => absurd hz0 hz', fun _ => rfl⟩ hqpm
                      · have hf := hcells i.size hse C.P K.w.drew hdrew
                        have hfo : (Builtin.firstCells i.size len (.slice ad len cap)).run C.P K.w.drew = .ok olds.toArray K.w.drew := by
                          by_cases hl0 : len = 0
                          · have : olds = [] := by rw [hl0] at hol; simpa using hol
                            rw [hl0, this]
                            exact firstCells_zero _ _ _ _
                          · have had := s3 (by have := hsh.1; omega)
                            subst had
                            refine run_firstCells_some (P := C.P) K.w.drew i.size len _ _ _ olds (by rw [hol, his]) (fun j u hu => ?_)
                            rw [add_lit]
                            have := ho2 j u hu
                            show K.w.cell? _ = _
                            simp only [World.cell?, c1]
                            simp only [Option.isSome_none, Bool.false_eq_true, if_false]
                            rw [← this]; congr 1; omega
                        have hrun := run_append_new (w := K.w) (ty := ty) hu' hdx hxi hi hz h0 h1 ha0 ha1 (hlen C.P K.w) hf hfo (by omega) (by omega) (by rw [hib]; omega)
                        have hgc := grownCap_ge K.w (len + plen ys) cap e
                        obtain ⟨μ', i0, i1, i2⟩ := Inv.become (T := T) (w' := K.w.drew.alloc (.cells (olds.toArray ++ news.toArray ++ Builtin.zeroCells z.cells (grownCap K.w (len + plen ys) cap e - (len + plen ys))) e))
                          hI hob ob' ⟨K.w.heap.size, 0, grownCap K.w (len + plen ys) cap e⟩ (by simp only [ob']; omega) (by simp) rfl rfl rfl (fun b hb _ => alloc_old K.w.drew _ hb)
                          (fun _ => ⟨.inr (Nat.le_refl _), by simp⟩)
                          (fun μ' hμ hE => by
                            unfold ObjOk
                            split
                            · rename_i heq; simp only [ob'] at heq; rw [heq] at hqpm; simp [isPm] at hqpm
                            · simp only [hμ]
                              refine ⟨⟨by simp only [ob']; omega, fun c hc => ?_, fun h => by simp [ob', hrow] at h, fun h => absurd h hz'⟩, fun _ => ⟨_, e, alloc_new K.w.drew _, ?_, by simp only [ob']; omega, ?_⟩⟩
                              · obtain ⟨c0, _, h2, h3, h4⟩ := hoc c hc
                                omega
                              · simp only [ob', Array.size_append, List.size_toArray, Nat.zero_add, size_zeroCells, hzs, hqe, hnl, hol]
                                rw [← Nat.add_mul, ← Nat.add_mul]
                                apply Nat.mul_le_mul_right
                                omega
                              · refine PayOk.evo hE (Nat.le_refl _) ?_
                                unfold PayOk
                                rw [if_neg (by simp only [ob', hids]; decide)]
                                refine RP_GP.2 ?_
                                have := hq1.fore (Builtin.zeroCells z.cells (grownCap K.w (len + plen ys) cap e - (len + plen ys)))
                                simpa using this)
                        refine ⟨_, _, μ', hrun, i1, i2, ?_⟩
                        exact fin (m := ⟨K.w.heap.size, 0, grownCap K.w (len + plen ys) cap e⟩) rfl i0 ⟨_, _, rfl, rfl, by omega, fun _ => rfl, fun _ hz0 => absurd hz0 hz', fun _ => rfl⟩ hqpm
                · cases h
            · cases h
        · cases h
  · cases h

end Go.AM

/- Rows of zeros; structs and arrays built; slice literals. -/
namespace Go.AM

theorem flatMap_rows {e : Nat} (he : 0 < e) : ∀ {l : List AV}, (∀ (j : Nat) (a : AV), l[j]? = some a → ∃ cs, a = .pc cs ∧ cs.length = e) →
    (l.flatMap fun | .pc r => r | _ => []).length = l.length * e ∧
    ∀ (k : Nat) (b : AV), (l.flatMap fun | .pc r => r | _ => [])[k]? = some b → ∃ cs, l[k / e]? = some (.pc cs) ∧ cs[k % e]? = some b
  | [], _ => by simp
  | a :: t, h => by
    obtain ⟨cs, rfl, hl⟩ := h 0 a rfl
    obtain ⟨h1, h2⟩ := flatMap_rows he (l := t) (fun j a ha => h (j + 1) a (by simpa using ha))
    refine ⟨by simp only [List.flatMap_cons, List.length_append, h1, hl, List.length_cons, Nat.add_mul]; omega, fun k b hb => ?_⟩
    simp only [List.flatMap_cons] at hb
    rcases get_app hb with ⟨hk, hb⟩ | ⟨hk, hb⟩
    · rw [hl] at hk
      rw [Nat.div_eq_of_lt hk, Nat.mod_eq_of_lt hk]
      exact ⟨cs, rfl, hb⟩
    · rw [hl] at hk hb
      obtain ⟨cs', h3, h4⟩ := h2 _ b hb
      have e1 : k / e = (k - e) / e + 1 := by
        rw [← Nat.add_div_right _ he, Nat.sub_add_cancel hk]
      have e2 : k % e = (k - e) % e := by
        rw [← Nat.add_mod_right (k - e) e, Nat.sub_add_cancel hk]
      rw [e1, e2]
      exact ⟨cs', by simpa using h3, h4⟩

theorem cellsOf_rel {K : Kx} {T : Nat → Nat → Prop} {p : AV} {r : Nat → Option Value} (h : PRel K T p r) : CRel K T (cellsOf p) r ∧ (cellsOf p).length = cellsLen p := by
  cases p <;> simp only [PRel, GP] at h <;> try (exact h.elim)
  case pn => exact ⟨fun j a ha => by simp [cellsOf] at ha, by simp [cellsOf, cellsLen, plen]⟩
  case pb l =>
    refine ⟨fun j a ha => ?_, by simp [cellsOf, cellsLen, plen, pesz]⟩
    simp only [cellsOf, List.getElem?_map] at ha
    cases hb : l[j]? with
    | none => rw [hb] at ha; cases ha
    | some b =>
      rw [hb] at ha
      simp only [Option.map_some, Option.some.injEq] at ha
      subst ha
      exact ⟨_, h j b hb, rfl, by simp [byteAV, SRel, RV]⟩
  case pi k l =>
    refine ⟨fun j a ha => ?_, by simp [cellsOf, cellsLen, plen, pesz]⟩
    simp only [cellsOf, List.getElem?_map] at ha
    cases hb : l[j]? with
    | none => rw [hb] at ha; cases ha
    | some b =>
      rw [hb] at ha
      simp only [Option.map_some, Option.some.injEq] at ha
      subst ha
      exact ⟨_, h j b hb, rfl, by simp [SRel, RV]⟩
  case pc l => exact ⟨h, by simp [cellsOf, cellsLen, plen, pesz]⟩
  case pr e l =>
    obtain ⟨h1, h2⟩ := flatMap_rows h.1 (fun j a ha => let ⟨cs, h3, h4, _⟩ := h.2 j a ha; ⟨cs, h3, h4⟩)
    refine ⟨fun j a ha => ?_, by simp only [cellsOf, cellsLen, plen, pesz]; exact h1⟩
    obtain ⟨cs, h3, h4⟩ := h2 j a ha
    obtain ⟨cs', h5, h6, h7⟩ := h.2 _ _ h3
    cases h5
    have := h7 _ _ h4
    rwa [Nat.mul_comm, Nat.div_add_mod] at this

theorem cellsAV_rel {K : Kx} {T : Nat → Nat → Prop} {a : AV} {v : Value} (h : VRel K T a v) (hs : scalars (cellsAV a) = true) :
    CRel K T (cellsAV a) (fun j => v.cells[j]?) ∧ v.cells.size = (cellsAV a).length := by
  cases a
  case agg p =>
    simp only [VRel, V1Rel] at h
    obtain ⟨cs, rfl, h1, h2⟩ := h
    obtain ⟨h3, h4⟩ := cellsOf_rel h2
    exact ⟨h3, h1.trans h4.symm⟩
  all_goals
    simp only [cellsAV, scalars, Bool.and_true] at hs
    have hs' := hs
    have h1 := SRel.of_v hs' h
    have h2 := SRel.cell hs' h1
    have h3 : v.cells = #[v] := by cases v <;> first | rfl | (simp [Value.oneCell'] at h2)
    rw [h3]
    refine ⟨fun j a ha => ?_, by simp [cellsAV]⟩
    simp only [cellsAV] at ha
    cases j with
    | zero => simp only [List.getElem?_cons_zero, Option.some.injEq] at ha; subst ha; exact ⟨v, rfl, h2, h1⟩
    | succ j => simp at ha

theorem nat_range_get {zero : Array Value} {n k : Nat} (hk : k < n) (hz : 0 < zero.size) : ((Array.range n).map (zero[· % zero.size]!))[k]? = zero[k % zero.size]? := by
  rw [Array.getElem?_map, Array.getElem?_range, if_pos hk]
  have : k % zero.size < zero.size := Nat.mod_lt _ hz
  simp [this]

theorem scalars_mem : ∀ {l : List AV}, scalars l = true → ∀ a ∈ l, scalar a = true
  | [], _, a, h => by simp at h
  | b :: t, hs, a, h => by
    simp only [scalars, Bool.and_eq_true] at hs
    rcases List.mem_cons.1 h with rfl | h
    · exact hs.1
    · exact scalars_mem hs.2 a h

theorem zeroRow_size {C : Ctx} {K : Kx} {T : Nat → Nat → Prop} {e : TypeId} {n : Nat} {p : AV} {z : Value} (hz : VRel K T (zeroAV C e) z) (h : zeroRow C e n = some p) : z.cells.size = sizeT C e := by
  unfold zeroRow at h
  simp only at h
  split at h
  · rename_i hc
    exact (cellsAV_rel hz hc.2.1).2.trans hc.1
  · cases h

/-- a row of n zero values -/
theorem zeroRow_rel {C : Ctx} {K : Kx} {T : Nat → Nat → Prop} {e : TypeId} {n : Nat} {p : AV} {z : Value} (hz : VRel K T (zeroAV C e) z) (h : zeroRow C e n = some p) (hpos : 0 < sizeT C e)
    {cs : Array Value} (hcs : ∀ k, k < n * sizeT C e → cs[k]? = z.cells[k % sizeT C e]?) :
    z.cells.size = sizeT C e ∧ plen p = n ∧ pesz p = sizeT C e ∧ isPm p = false ∧ RP K.w (NT K T 0) p (fun j => cs[j]?) := by
  unfold zeroRow at h
  simp only at h
  split at h
  · rename_i hc
    obtain ⟨h1, h2, h3, h4⟩ := hc
    obtain ⟨h5, h6⟩ := cellsAV_rel hz h2
    have hid : ∀ a ∈ cellsAV (zeroAV C e), ∀ x, x ∉ ids a := fun a ha x hx => by
      have := idsL_mem ha x hx
      rw [List.isEmpty_iff] at h3
      rw [h3] at this
      simp at this
    have htg : ∀ a ∈ cellsAV (zeroAV C e), ∀ t ∈ tags a, ∀ x, T t x → T 0 x := fun a ha t ht x hx => by
      have := List.all_eq_true.1 h4 t (tagsL_mem ha t ht)
      rw [beq_iff_eq] at this
      rw [this] at hx
      exact hx
    refine ⟨h6.trans h1, ?_⟩
    have one : ∀ a, cellsAV (zeroAV C e) = [a] → sizeT C e = 1 ∧ ∃ u, z.cells[0]? = some u ∧ u.oneCell' = true ∧ RV K.w (NT K T 0) a u := by
      intro a ha
      rw [ha] at h1 h5 hid htg
      obtain ⟨u, h7, h8, h9⟩ := h5 0 a rfl
      exact ⟨h1.symm, u, h7, h8, h9.rv (fun x => hid a (by simp) x) (fun t ht => htg a (by simp) t ht)⟩
    have rep : ∀ {α : Type} {a b : α} {j : Nat}, (List.replicate n a)[j]? = some b → j < n ∧ b = a := by
      intro α a b j hj
      rw [List.getElem?_replicate] at hj
      split at hj
      · exact ⟨by assumption, by simpa using hj.symm⟩
      · cases hj
    split at h
    · rename_i heq
      obtain ⟨h7, u, h8, h9, h10⟩ := one _ heq
      simp only [Option.some.injEq] at h
      subst h
      refine ⟨by simp [plen], by simp [pesz, h7], rfl, ?_⟩
      simp only [RP]
      intro j b hb
      obtain ⟨hj, rfl⟩ := rep hb
      rw [hcs j (by rw [h7]; omega), h7, Nat.mod_one, h8]
      simp only [RV] at h10
      rw [h10]; rfl
    · rename_i k k' m _ _ heq
      obtain ⟨h7, u, h8, h9, h10⟩ := one _ heq
      split at h
      · rename_i hk
        subst hk
        simp only [Option.some.injEq] at h
        subst h
        refine ⟨by simp [plen], by simp [pesz, h7], rfl, ?_⟩
        simp only [RP]
        intro j b hb
        obtain ⟨hj, rfl⟩ := rep hb
        rw [hcs j (by rw [h7]; omega), h7, Nat.mod_one, h8]
        simp only [RV] at h10
        rw [h10]
      · cases h
    · cases h
    iterate 2
      simp only [Option.some.injEq] at h
      subst h
      refine ⟨by simp [plen], by simp [pesz], rfl, RP_GP.2 ⟨hpos, fun j a ha => ?_⟩⟩
      obtain ⟨hj, rfl⟩ := rep ha
      refine ⟨_, rfl, h1, fun k b hb => ?_⟩
      have hk : k < sizeT C e := by have := (List.getElem?_eq_some_iff.1 hb).1; omega
      obtain ⟨u, h7, h8, h9⟩ := h5 k b hb
      have hm := List.mem_of_getElem? hb
      refine ⟨u, ?_, h8, h9.rv (fun x => hid b hm x) (fun t ht => htg b hm t ht)⟩
      have hle : j * sizeT C e + sizeT C e ≤ n * sizeT C e := by rw [← Nat.succ_mul]; exact Nat.mul_le_mul_right _ hj
      show cs[j * sizeT C e + k]? = some u
      rw [hcs (j * sizeT C e + k) (by omega), Nat.mul_comm, Nat.mul_add_mod, Nat.mod_eq_of_lt hk]
      exact h7
    · obtain ⟨h7, u, h8, h9, h10⟩ := one _ (by assumption)
      simp only [Option.some.injEq] at h
      subst h
      refine ⟨by simp [plen], by simp [pesz, h7], rfl, RP_GP.2 fun j b hb => ?_⟩
      obtain ⟨hj, rfl⟩ := rep hb
      exact ⟨u, by rw [hcs j (by rw [h7]; omega), h7, Nat.mod_one, h8], h9, h10⟩
    · cases h
  · cases h

theorem wrap64 {n : Int} (h0 : 0 ≤ n) (h1 : n ≤ 9223372036854775807) : IntKind.i64.wrap n = n := by
  simp only [IntKind.wrap, IntKind.signed, IntKind.bits]
  simp
  omega

theorem makeSliceV_ok {C : Ctx} {K : Kx} {T : Nat → Nat → Prop} (hI : Inv C K T) {t : TypeId} {l c r : AV} {vl vc : Value} {H' : Heap} (hl : VRel K T l vl) (hc : VRel K T c vc)
    (h : makeSliceV C K.H t l c = some (r, H')) :
    ∃ u w' μ', (Instr.makeSlice t vl vc).run C.P K.w = .ok u w' ∧ Inv C ⟨μ', H', w'⟩ T ∧ Evo T K.H.length K ⟨μ', H', w'⟩ ∧ VRel ⟨μ', H', w'⟩ T r u := by
  unfold makeSliceV at h
  split at h
  · rename_i e l c hu
    have hu' := und_some hu (by simp)
    simp only [VRel, V1Rel, SRel, RV] at hl hc
    subst hl; subst hc
    split at h
    · rename_i hcd
      obtain ⟨h1, h2, h3, h4, h5⟩ := hcd
      cases hr : zeroRow C e l.toNat with
      | none => rw [hr] at h; cases h
      | some p =>
        rw [hr] at h
        simp only [Option.map_some, Option.some.injEq, Prod.mk.injEq] at h
        obtain ⟨rfl, rfl⟩ := h
        have hne : zeroAV C e ≠ .top := by
          intro h0
          unfold zeroRow at hr
          simp only [h0, cellsAV, scalars, scalar] at hr
          simp at hr
        obtain ⟨z, _, hzv, i, hi, hzi⟩ := zero_ok (K := K) (T := T) rfl hne
        have hsz : i.size = sizeT C e := by simp [sizeT, hi]
        have hby : i.bytes = bytesT C e := by simp [bytesT, hi]
        have hzs := zeroRow_size hzv hr
        have hbnd : (bytesT C e : Int) * c ≤ 281474976710656 := by omega
        have n1 : ¬ (c < 0) := by omega
        have n2 : ¬ (281474976710656 < (i.bytes : Int) * c) := by rw [hby]; omega
        have n3 : ¬ (l < 0) := by omega
        have n4 : ¬ (c < l) := by omega
        have wl := wrap64 h1 (by omega)
        have wc := wrap64 (show 0 ≤ c by omega) h3
        have n5 : ¬ (140737488355328 < c.toNat * i.bytes) := by
          have : (c.toNat : Int) * (bytesT C e : Int) ≤ 140737488355328 := by rw [Int.toNat_of_nonneg (by omega), Int.mul_comm]; exact h4
          rw [hby]; omega
        obtain ⟨cs, hcs, hcz, hrun⟩ : ∃ cs : Array Value, (∀ k, k < c.toNat * sizeT C e → cs[k]? = z.cells[k % sizeT C e]?) ∧ cs.size = c.toNat * sizeT C e ∧
            (Instr.makeSlice t (.int .i64 l) (.int .i64 c)).run C.P K.w = .ok (.slice (some ⟨K.w.heap.size, 0, none⟩) l.toNat c.toNat) (K.w.alloc (.cells cs e)) := by
          by_cases hn : c.toNat * i.size = 0
          · refine ⟨#[], fun k hk => by rw [← hsz, hn] at hk; omega, by rw [← hsz, hn]; rfl, ?_⟩
            simp [Instr.makeSlice, run_und hu', asInt, asIntOf, typeInfo, hi, sizeOf, wl, wc, n1, n2, n3, n4, hn, newRow, askRoom, roomBytes]
            refine congrArg (fun x => K.w.alloc (Obj.cells x e)) (Array.eq_empty_of_size_eq_zero (by simp))
          · refine ⟨(Array.range (c.toNat * i.size)).map (z.cells[· % z.cells.size]!), fun k hk => ?_, by simp [hsz], ?_⟩
            · rw [nat_range_get (by rw [hsz]; exact hk) (by rw [hzs]; exact h5), hzs]
            · simp [Instr.makeSlice, run_und hu', asInt, asIntOf, typeInfo, hi, sizeOf, zeroValue, hzi, wl, wc, n1, n2, n3, n4, hn, newRow, askRoom, roomBytes]
        have hle : l.toNat ≤ c.toNat := by omega
        have hle' := Nat.mul_le_mul_right (sizeT C e) hle
        obtain ⟨_, p1, p2, p3, p4⟩ := zeroRow_rel hzv hr h5 (cs := cs) (fun k hk => hcs k (by omega))
        obtain ⟨μ', i1, i2, i3⟩ := pushRow (T := T) (w' := K.w.alloc (.cells cs e)) (cs := cs) (E := e) (cap := c.toNat) hI (rowOf p (some c.toNat) 1) rfl rfl (fun h => by cases h) p3 (by simp) rfl rfl rfl
          (alloc_new _ _) (fun b hb => alloc_old _ _ hb) (by simp only [rowOf]; omega) (by simp only [rowOf]; rw [p2, hcz]; exact Nat.le_refl _) (by simp only [rowOf]; omega) (fun c' hc' => by simpa [rowOf] using hc'.symm)
          (by unfold PayOk; simp only [rowOf, Bool.false_eq_true, if_false]; exact p4)
        refine ⟨_, _, μ', hrun, i1, i2, ?_⟩
        simp only [rowOf, p1] at i3
        exact i3
    · cases h
  · cases h

end Go.AM
