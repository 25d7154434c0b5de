/- The abstract machine, part 3: a deterministic evaluator for the program's code and the proof that what it tells is so. Conditions: none beyond the theorems' own. -/
import Derived.ChangeCalls
import Derived.ProofKit
import Derived.Test.YtikleidhmekgnaaAm2
/- Running code: what exec tells is so. -/
namespace Go.AM

def exOf : Ex → Exit
  | .normal => .normal
  | .exit id => .exit id
  | .ret => .ret

/-- what is left when out is told -/
def Left (C : Ctx) (T : Nat → Nat → Prop) (m : Nat) (K0 : Kx) (nt : Nat) (out : Out) (e : Exit) (a : Act) (w : World) : Prop :=
  e = exOf out.ex ∧ Now C T m K0 nt out.fr out.H a w

theorem least {J : Nat → Prop} (h : ∃ k, J k) : ∃ k, J k ∧ ∀ j, J j → k ≤ j := by
  obtain ⟨k, hk⟩ := h
  induction k using Nat.strongRecOn with
  | _ k ih =>
    by_cases hx : ∃ j, j < k ∧ J j
    · obtain ⟨j, h1, h2⟩ := hx
      exact ih j h1 h2
    · exact ⟨k, hk, fun j hj => Nat.le_of_not_lt fun h => hx ⟨j, h, hj⟩⟩

open Classical in
/-- a measure out of a stock of fuels -/
noncomputable def fuelOf (J : Act → World → Nat → Prop) (a : Act) (w : World) : Nat :=
  if h : ∃ k, J a w k then Classical.choose (least h) else 0

theorem fuelOf_spec {J : Act → World → Nat → Prop} {a : Act} {w : World} (h : ∃ k, J a w k) : J a w (fuelOf J a w) ∧ ∀ j, J a w j → fuelOf J a w ≤ j := by
  unfold fuelOf
  rw [dif_pos h]
  exact Classical.choose_spec (least h)

theorem wp_loop_fuel {P : Program} {Q : Exit → Act → World → Prop} {c : Code} {a : Act} {w : World} (J : Act → World → Nat → Prop) (n : Nat) (h0 : J a w n)
    (round : ∀ a w n, J a w n → c.wp P (Exit.then (fun a' w' => ∃ k, k < n ∧ J a' w' k) Q) a w) : (Code.loop c).wp P Q a w := by
  refine wp_loop (fun a w => ∃ k, J a w k) (fuelOf J) ⟨n, h0⟩ fun a w h => ?_
  obtain ⟨h1, h2⟩ := fuelOf_spec h
  refine wp_mono (round a w _ h1) fun e a' w' hq => ?_
  cases e <;> simp only [Exit.then] at hq ⊢ <;> try exact hq
  obtain ⟨k, h3, h4⟩ := hq
  exact ⟨⟨k, h4⟩, Nat.lt_of_le_of_lt ((fuelOf_spec ⟨k, h4⟩).2 k h4) h3⟩

section
variable {C : Ctx} {T : Nat → Nat → Prop} {m nt : Nat} {K0 : Kx}

theorem exec_ok {cf : Cf} (hcf : CfOk C cf) {f n : Nat} (hmix : C.P.follows .mixedOrders = true) : (c : Code) → drawsOk C f c = true → ∀ {fr : Frame} {H : Heap} {a : Act} {w : World} {out : Out},
    exec C cf f m n c fr H = some out → Now C T m K0 (ntOf C f) fr H a w → c.wp C.P (Left C T m K0 (ntOf C f) out) a w
  | .skip, _, fr, H, a, w, out, h, hN => by
    simp only [exec, Option.some.injEq] at h
    subst h
    exact wp_skip ⟨rfl, hN⟩
  | .region id ops draw, hdr, fr, H, a, w, out, h, hN => by
    simp only [exec] at h
    split at h
    · cases h
    · rename_i hd
      split at h
      · rename_i fr' H' hr
        simp only [Option.some.injEq] at h
        subst h
        have hQ : ∀ a' w', Now C T m K0 (ntOf C f) fr' H' a' w' → Left C T m K0 (ntOf C f) (afterRegion C f m id fr' H') .normal a' w' := fun a' w' hN' => by
          obtain ⟨h1, h2⟩ := hN'.after f id
          exact ⟨by rw [h1]; rfl, h2⟩
        cases draw with
        | true =>
          have hid : C.dr f id = true := by simpa using hd
          simp only [drawsOk, hid, Bool.not_true, Bool.false_or] at hdr
          exact draw_ok hcf hmix hdr hr hN hQ
        | false =>
          refine wp_region ?_
          have := runOps_ok hcf (Q := Left C T m K0 (ntOf C f) (afterRegion C f m id fr' H')) ops.toList 0 rfl hr hN hQ
          rwa [Array.length_toList, ← List.range_eq_range'] at this
      · cases h
  | .seq x y, hdr, fr, H, a, w, out, h, hN => by
    simp only [drawsOk, Bool.and_eq_true] at hdr
    obtain ⟨hd1, hd2⟩ := hdr
    simp only [exec] at h
    split at h
    · rename_i fr' H' hx
      refine wp_seq (wp_mono (exec_ok hcf hmix x hd1 hx hN) fun e a' w' hl => ?_)
      obtain ⟨rfl, hN'⟩ := hl
      exact exec_ok hcf hmix y hd2 h hN'
    · rename_i hne
      refine wp_seq (wp_mono (exec_ok hcf hmix x hd1 h hN) fun e a' w' hl => ?_)
      obtain ⟨rfl, hN'⟩ := hl
      cases hx : out.ex with
      | normal =>
        obtain ⟨ex, fr', H'⟩ := out
        simp only at hx
        subst hx
        exact absurd h (hne _ _)
      | exit id => simp only [exOf, Exit.then]; exact ⟨by rw [hx]; rfl, hN'⟩
      | ret => simp only [exOf, Exit.then]; exact ⟨by rw [hx]; rfl, hN'⟩
  | .cond c x y, hdr, fr, H, a, w, out, h, hN => by
    simp only [drawsOk, Bool.and_eq_true] at hdr
    obtain ⟨hd1, hd2⟩ := hdr
    simp only [exec] at h
    split at h
    · rename_i d hd
      have hc : a.eval c = .bool d := by
        obtain ⟨μ, hI, _, hf, _⟩ := hN
        have := evalO_v hI hf c
        rw [hd] at this
        simpa [VRel, V1Rel, SRel, RV] using this
      refine wp_cond hc ?_
      cases d with
      | true => exact exec_ok hcf hmix x hd1 h hN
      | false => exact exec_ok hcf hmix y hd2 h hN
    · cases h
  | .block id c, hdr, fr, H, a, w, out, h, hN => by
    simp only [drawsOk] at hdr
    simp only [exec] at h
    split at h
    · rename_i id' fr' H' hx
      refine wp_block (wp_mono (exec_ok hcf hmix c hdr hx hN) fun e a' w' hl => ?_)
      obtain ⟨rfl, hN'⟩ := hl
      simp only [exOf, Exit.inBlock]
      split at h
      · rename_i he
        simp only [Option.some.injEq] at h
        subst h
        rw [if_pos he]
        exact ⟨rfl, hN'⟩
      · rename_i he
        simp only [Option.some.injEq] at h
        subst h
        rw [if_neg he]
        exact ⟨rfl, hN'⟩
    · rename_i hne
      refine wp_block (wp_mono (exec_ok hcf hmix c hdr h hN) fun e a' w' hl => ?_)
      obtain ⟨rfl, hN'⟩ := hl
      cases hx : out.ex with
      | normal => simp only [exOf, Exit.inBlock]; exact ⟨by rw [hx]; rfl, hN'⟩
      | exit id =>
        obtain ⟨ex, fr', H'⟩ := out
        simp only at hx
        subst hx
        exact absurd h (hne _ _ _)
      | ret => simp only [exOf, Exit.inBlock]; exact ⟨by rw [hx]; rfl, hN'⟩
  | .loop c, hdr, fr, H, a, w, out, h, hN => by
    simp only [drawsOk] at hdr
    simp only [exec] at h
    refine wp_loop_fuel (fun a w k => ∃ fr H, loopN (exec C cf f m n c) k fr H = some out ∧ Now C T m K0 (ntOf C f) fr H a w) n ⟨fr, H, h, hN⟩ ?_
    rintro a w k ⟨fr, H, hk, hN⟩
    cases k with
    | zero => simp [loopN] at hk
    | succ k =>
      simp only [loopN] at hk
      split at hk
      · rename_i fr' H' hx
        refine wp_mono (exec_ok hcf hmix c hdr hx hN) fun e a' w' hl => ?_
        obtain ⟨rfl, hN'⟩ := hl
        exact ⟨k, Nat.lt_succ_self k, fr', H', hk, hN'⟩
      · rename_i hne
        refine wp_mono (exec_ok hcf hmix c hdr hk hN) fun e a' w' hl => ?_
        obtain ⟨rfl, hN'⟩ := hl
        cases hx : out.ex with
        | normal =>
          obtain ⟨ex, fr', H'⟩ := out
          simp only at hx
          subst hx
          exact absurd hk (hne _ _)
        | exit id => simp only [exOf, Exit.then]; exact ⟨by rw [hx]; rfl, hN'⟩
        | ret => simp only [exOf, Exit.then]; exact ⟨by rw [hx]; rfl, hN'⟩
  | .exit id, _, fr, H, a, w, out, h, hN => by
    simp only [exec, Option.some.injEq] at h
    subst h
    exact wp_exit ⟨rfl, hN⟩
  | .ret, _, fr, H, a, w, out, h, hN => by
    simp only [exec, Option.some.injEq] at h
    subst h
    exact wp_ret ⟨rfl, hN⟩
  | .scope .., _, fr, H, a, w, out, h, hN => by simp [exec] at h
  | .label .., _, fr, H, a, w, out, h, hN => by simp [exec] at h
  | .goto .., _, fr, H, a, w, out, h, hN => by simp [exec] at h
  | .refuse .., _, fr, H, a, w, out, h, hN => by simp [exec] at h
  | .rangeFunc .., _, fr, H, a, w, out, h, hN => by simp [exec] at h

end

structure CtxOk (C : Ctx) : Prop where
  mix : C.P.follows .mixedOrders = true
  draws : ∀ f fn c, C.P.funcs[f]? = some fn → fn.body = some c → drawsOk C f c = true

section
variable {C : Ctx} {T : Nat → Nat → Prop} {K : Kx}

theorem loadV_var (hI : Inv C K T) {t : TypeId} {a x : AV} {v : Value} (hv : VRel K T a v) (h : loadV C K.H t a = some x) :
    ∃ u, (do loadVar t (← asAddr v) : Sem Value).run C.P K.w = .ok u K.w ∧ VRel K T x u := by
  obtain ⟨u, h1, h2⟩ := loadV_ok hI hv h
  refine ⟨u, ?_, h2⟩
  have : ∃ ad, v = .pointer (some ad) := by
    unfold loadV at h
    split at h
    · cases h
    · split at h
      · rename_i o i f g
        cases hl : live K.H o g with
        | none => rw [hl] at h; cases h
        | some ob =>
          simp only [VRel, V1Rel, SRel] at hv
          obtain ⟨h3, h4⟩ := live_iff.1 hl
          exact ⟨_, ((hv.2.2 ob h3).2 h4).2⟩
      · simp only [VRel, V1Rel] at hv
        obtain ⟨b, off, h3, _⟩ := hv
        exact ⟨_, h3⟩
      · cases h
  obtain ⟨ad, rfl⟩ := this
  simp only [Instr.loadAt, Instr.sureAddr, Sem.run_bind, Sem.run_pure, Result.andThen_ok] at h1
  simp only [asAddr, Sem.run_bind, Sem.run_pure, Result.andThen_ok]
  exact h1

def resOne (tmps : Array Value) : ResultVar → Sem Value
  | .tmp t => pure (tmps.getD t undef)
  | .cell a t => do loadVar t (← asAddr (tmps.getD a undef))

theorem resultsV_ok (hI : Inv C K T) {fr : Frame} {tmps : Array Value} (hf : FRel K T fr tmps) : ∀ {rs : List ResultVar} {l : List AV}, resultsV C fr K.H rs = some l →
    ∃ us, (rs.mapM (resOne tmps)).run C.P K.w = .ok us K.w ∧ ArgsRel K T l us
  | [], l, h => by
    simp only [resultsV, Option.some.injEq] at h
    subst h
    exact ⟨[], by simp [Sem.run_pure], trivial⟩
  | .tmp t :: r, l, h => by
    simp only [resultsV] at h
    cases hr : resultsV C fr K.H r with
    | none => rw [hr] at h; cases h
    | some l' =>
      rw [hr] at h
      simp only [Option.map_some, Option.some.injEq] at h
      subst h
      obtain ⟨us, h1, h2⟩ := resultsV_ok hI hf hr
      exact ⟨tmps.getD t undef :: us, by simp only [List.mapM_cons, resOne, Sem.run_bind, Sem.run_pure, Result.andThen_ok, h1], hf t, h2⟩
  | .cell a t :: r, l, h => by
    simp only [resultsV] at h
    split at h
    · rename_i x l' hx hr
      simp only [Option.some.injEq] at h
      subst h
      obtain ⟨us, h1, h2⟩ := resultsV_ok hI hf hr
      obtain ⟨u, h3, h4⟩ := loadV_var hI (hf a) hx
      refine ⟨u :: us, ?_, h4, h2⟩
      simp only [List.mapM_cons, resOne]
      rw [Sem.run_bind, h3]
      simp only [Result.andThen_ok, Sem.run_bind, h1, Sem.run_pure]
    · cases h

theorem noTups_v1 : ∀ {l : List AV} {us : List Value}, noTups l = true → ArgsRel K T l us → us.length = l.length ∧ ∀ (j : Nat) (a : AV), l[j]? = some a → ∃ u, us[j]? = some u ∧ V1Rel K T a u
  | [], us, _, h => by rw [h.nil]; simp
  | a :: r, us, hn, h => by
    obtain ⟨v, s, rfl, h1, h2⟩ := h.cons
    have ha : V1Rel K T a v ∧ noTups r = true := by cases a <;> first | exact ⟨h1, hn⟩ | (simp [noTups] at hn; done)
    obtain ⟨h3, h4⟩ := noTups_v1 ha.2 h2
    refine ⟨by simp [h3], fun j b hb => ?_⟩
    cases j with
    | zero =>
      simp only [List.getElem?_cons_zero, Option.some.injEq] at hb
      subst hb
      exact ⟨v, rfl, ha.1⟩
    | succ j => exact h4 j b hb

theorem ArgsRel.len : ∀ {l : List AV} {us : List Value}, ArgsRel K T l us → us.length = l.length
  | [], us, h => by simp [h.nil]
  | a :: r, us, h => by
    obtain ⟨v, s, rfl, h1, h2⟩ := h.cons
    simp [h2.len]

theorem results_ok (hI : Inv C K T) {fr : Frame} {tmps : Array Value} (hf : FRel K T fr tmps) {fn : Func} {l : List AV} (h : resultsV C fr K.H fn.results.toList = some l) :
    ∃ v, (results fn tmps).run C.P K.w = .ok v K.w ∧ VRel K T (resultV l) v := by
  obtain ⟨us, h1, h2⟩ := resultsV_ok hI hf h
  have hlen := h2.len
  refine ⟨if h : us.toArray.size = 1 then us.toArray[0] else .tuple us.toArray, ?_, ?_⟩
  · have : results fn tmps = (do let vs ← fn.results.mapM (resOne tmps); pure (if h : vs.size = 1 then vs[0] else .tuple vs)) := rfl
    rw [this, Array.mapM_eq_mapM_toList]
    simp only [Sem.run_bind, map_eq_pure_bind, h1, Result.andThen_ok, Sem.run_pure]
  · split
    · rename_i hs
      simp only [List.size_toArray] at hs
      rw [hs] at hlen
      cases l with
      | nil => simp at hlen
      | cons a r =>
        cases r with
        | nil =>
          obtain ⟨v, s, rfl, h3, h4⟩ := h2.cons
          exact h3
        | cons => simp at hlen
    · rename_i hs
      simp only [List.size_toArray] at hs
      have : resultV l = if noTups l then .tup l else .top := by
        cases l with
        | nil => rfl
        | cons a r =>
          cases r with
          | nil => simp at hlen; exact absurd hlen hs
          | cons => rfl
      rw [this]
      split
      · rename_i hn
        obtain ⟨h3, h4⟩ := noTups_v1 hn h2
        simp only [VRel]
        exact ⟨us.toArray, rfl, by simpa using h3, fun j a ha => by obtain ⟨u, h5, h6⟩ := h4 j a ha; exact ⟨u, by simpa using h5, h6⟩⟩
      · exact VRel.top _ _ _

theorem numbered_rel : ∀ {l : List AV} {us : List Value} {k : Nat}, ArgsRel K T l us → ∀ i, (k ≤ i ∧ i < k + us.length ∧ ∃ u, us[i - k]? = some u ∧ VRel K T (getF (numbered k l) i) u) ∨ getF (numbered k l) i = .top
  | [], us, k, _, i => .inr rfl
  | a :: r, us, k, h, i => by
    obtain ⟨v, s, rfl, h1, h2⟩ := h.cons
    simp only [numbered, getF]
    split
    · rename_i hk
      subst hk
      left
      refine ⟨Nat.le_refl _, by simp, v, by simp, h1⟩
    · rcases numbered_rel (k := k + 1) h2 i with ⟨h3, h4, u, h5, h6⟩ | h3
      · left
        simp only [List.length_cons]
        refine ⟨by omega, by omega, u, ?_, h6⟩
        rw [show i - k = (i - (k + 1)) + 1 by omega]
        simpa using h5
      · exact .inr h3

theorem runBody_ok (hC : CtxOk C) {cf : Cf} (hcf : CfOk C cf) (n : Nat) : CfOk C (runBody C cf n) := by
  intro f args H x H' h K T vs hK hI ha
  subst hK
  unfold runBody at h
  split at h
  · cases h
  · rename_i fn hF
    split at h
    · cases h
    · rename_i c hc
      refine calls_of_wp hF hc ?_
      have hN : Now C T K.H.length K (ntOf C f) (numbered 0 args) K.H { tmps := vs ++ Array.replicate (fn.ntmps - vs.size) undef, defers := [] } K.w := by
        refine ⟨K.μ, hI, Evo.refl T K (Nat.le_refl _), fun i => ?_, ?_, rfl⟩
        · rcases numbered_rel (k := 0) ha i with ⟨_, h2, u, h3, h4⟩ | h1
          · rw [Nat.sub_zero] at h3
            have : (vs ++ Array.replicate (fn.ntmps - vs.size) undef).getD i undef = u := by
              have hlt : i < vs.size := by simpa using h2
              rw [Array.getD_eq_getD_getElem?, Array.getElem?_append_left hlt, ← Array.getElem?_toList, h3]
              rfl
            rw [this]
            exact h4
          · rw [h1]; exact VRel.top _ _ _
        · simp only [ntOf, hF, Option.map_some, Option.getD_some, Array.size_append, Array.size_replicate]
          omega
      have key : ∀ (out : Out), exec C cf f K.H.length n c (numbered 0 args) K.H = some out → (out.ex = .normal ∨ out.ex = .ret) → (resultsV C out.fr out.H fn.results.toList).map (fun l => (resultV l, out.H)) = some (x, H') →
          c.wp C.P (bodyPost C.P fn (Gives C T K x H')) { tmps := vs ++ Array.replicate (fn.ntmps - vs.size) undef, defers := [] } K.w := by
        intro out hout hex hres
        refine wp_mono (exec_ok hcf hC.mix c (hC.draws f fn c hF hc) hout hN) fun e a' w' hl => ?_
        obtain ⟨rfl, μ, hI', hE, hf, _, hd⟩ := hl
        cases hr : resultsV C out.fr out.H fn.results.toList with
        | none => rw [hr] at hres; cases hres
        | some l =>
          rw [hr] at hres
          simp only [Option.map_some, Option.some.injEq, Prod.mk.injEq] at hres
          obtain ⟨rfl, rfl⟩ := hres
          obtain ⟨v, h1, h2⟩ := results_ok hI' hf hr
          rcases hex with hex | hex <;> rw [hex] <;> exact ⟨hd, v, h1, μ, hI', hE, h2⟩
      split at h
      · rename_i fr' H1 hx
        exact key _ hx (.inl rfl) h
      · rename_i fr' H1 hx
        exact key _ hx (.inr rfl) h
      · cases h

theorem callF_ok (hC : CtxOk C) : ∀ n, CfOk C (callF C n)
  | 0 => by intro f args H x H' h; simp [callF] at h
  | n + 1 => by
    have := enterV_ok (runBody_ok hC (callF_ok hC n) n)
    exact this

end

end Go.AM

/- A law's statement out of a run of the abstract machine. -/
namespace Go.AM
open Go.ChangeShapes Go.WideShapes Go.ChangeAt Go.RowKit

/-- tags: 0: what is new; the others: all -/
def T0 (n : Nat) (t b : Nat) : Prop := n ≤ b ∨ t ≠ 0

def start (W : World) : Kx := ⟨fun _ => default, [], W⟩

theorem start_own (W : World) (b : Nat) : ¬ Own (start W) b := by
  rintro ⟨o, ob, h, _⟩
  simp [start] at h

theorem start_inv {C : Ctx} (hG : ∀ g, C.G g = none) (W : World) : Inv C (start W) (T0 W.heap.size) where
  obj := fun o ob h => by simp [start] at h
  inj := fun o o' ob ob' h => by simp [start] at h
  own := fun b h => absurd h (start_own W b)
  new := fun b h => .inl h
  mono := fun t b h => by
    rcases h with h | h
    · exact .inl h
    · exact absurd rfl h
  glob := fun g p h => by rw [hG] at h; cases h

/-- what a law's run says -/
def LawEnds (W : World) (e : Ending) (W' : World) : Prop :=
  e = .returned (.bool true) ∧ W'.os = W.os ∧ W'.output = W.output ∧ ∀ b : Nat, b < W.heap.size → W'.heap[b]? = W.heap[b]?

theorem law_calls {C : Ctx} (hC : CtxOk C) (hG : ∀ g, C.G g = none) {n f : Nat} {args : List AV} {vs : Array Value} {W : World} {H' : Heap} (h : callF C n f args [] = some (.bool true, H'))
    (ha : ArgsRel (start W) (T0 W.heap.size) args vs.toList) : Calls C.P f vs W (LawEnds W) := by
  have := callF_ok hC n f args [] _ H' h (start W) (T0 W.heap.size) vs rfl (start_inv hG W) ha
  refine Calls.mono this fun e W' he => ?_
  cases e with
  | panicked => exact he.elim
  | outgrown => exact he.elim
  | returned v =>
    obtain ⟨μ, hI, hE, hv⟩ := he
    simp only [VRel, V1Rel, SRel, RV] at hv
    subst hv
    refine ⟨rfl, hE.os, hE.output, fun b hb => hE.exact b hb (start_own W b) ?_⟩
    rintro (h | h)
    · have : b < W.heap.size := hb
      omega
    · exact h rfl

section
variable {H : Type} {enc : TypeId × Value → H}

theorem law_post {P : Program} {f : Func} {s : ChangeSpec} {apart fresh handsOn again : Bool} {W W' : World} {args : Array Value} {ds gs : List (DataW H)} {before : List MemPlace} {rt : TypeId}
    (hrow : laidOutB P = true) (hmap : mapsRowed P = true) (hfull : ∀ t e, t < P.types.size → P.underlying t = some (.slice e) → 0 < P.cellsOf e) (hparams : ∀ t ∈ f.params.toList, t < P.types.size)
    (hvars : s.vars = []) (hrt : f.resultTypes = #[rt]) (hb : P.underlying rt = some .bool)
    (hW : DataW.Whole enc P f.params.toList s.vars apart W args.toList ds gs before) (hfn : s.fn H ds = { results := [.lit (.bool true)], args := ds })
    (hos : W'.os = W.os) (hout : W'.output = W.output) (hsame : ∀ b : Nat, b < W.heap.size → W'.heap[b]? = W.heap[b]?) :
    s.post enc P f apart fresh handsOn again W args (.bool true) W' := by
  have hlt := hW.lt
  have hcell : ∀ b off, b < W.heap.size → W'.cell? ⟨b, off, none⟩ = W.cell? ⟨b, off, none⟩ := fun b off h => cell_of_heap (hsame b h) off
  have hfz : ∀ a : Addr, a.block < W.heap.size → W'.frozen? a = W.frozen? a := fun a h => by unfold World.frozen?; rw [hsame _ h]
  have hat : ∀ p ∈ before, W.sameAt W' p := by
    intro p hp
    have := hlt p hp
    cases p with
    | cell b off => exact hcell b off this
    | map b => exact hsame b this
  have K := kids_rows hrow hmap
  obtain ⟨p, q, hA, hV, hps, hz, hn⟩ := id hW
  rw [hvars] at hV
  obtain ⟨rfl, rfl⟩ := trodVars_none hV
  simp only [List.append_nil] at hps
  subst hps
  -- the arguments again
  have again' : ∀ sp : Nat → Bool, (∀ x ∈ before, sp x.block = true) → DataW.TrodAll enc P W' 0 sp true f.params.toList args.toList ds before := by
    intro sp hsp
    have carry : ∀ {ts : List TypeId} {vs : List Value} {ds : List (DataW H)} {ps : List MemPlace}, DataW.TrodAll enc P W 0 (fun _ => true) true ts vs ds ps → (∀ x ∈ ps, W.sameAt W' x) → DataW.TrodAll enc P W' 0 (fun _ => true) true ts vs ds ps := by
      intro ts
      induction ts with
      | nil => intro vs ds ps h _; cases vs <;> cases ds <;> first | exact h | exact h.elim
      | cons t ts ih =>
        intro vs ds ps h hs
        cases vs with
        | nil => exact h.elim
        | cons v vs =>
          cases ds with
          | nil => exact h.elim
          | cons d ds =>
            obtain ⟨a, b, ⟨n, h1⟩, h2, e⟩ := h
            subst e
            exact ⟨a, b, ⟨n, DataW.trod_carry n t _ _ h1 fun x hx => hs x (List.mem_append_left _ hx)⟩, ih h2 fun x hx => hs x (List.mem_append_right _ hx), rfl⟩
    exact DataW.TrodAll.respare K hfull hparams (carry hA hat) hsp
  have hres : ∀ (b : Nat) (sp : Nat → Bool) (hd : Bool), DataW.TrodAll enc P W' b sp hd f.resultTypes.toList ((Value.bool true).resultList f.resultTypes.size) [.lit (.bool true)] [] := by
    intro b sp hd
    rw [hrt]
    exact trodAll_mk1 (shut_bool hb true)
  have hfn' : s.fn H (ds ++ []) = { results := [.lit (.bool true)], args := ds } := by rw [List.append_nil]; exact hfn
  have hold : ∀ x ∈ before, (fun b => decide (b < W.heap.size)) x.block = true := fun x hx => by simpa using hlt x hx
  have hkept : W.keptBut W' (fun x => x ∈ before ∧ x ∈ before ++ []) := by
    refine ⟨hos, hout, fun i hi => ?_⟩
    rw [hsame i hi]
    generalize W.heap[i]? = x
    rcases x with _ | x
    · rfl
    · cases x <;> simp
  refine ⟨ds, [], before, [], before, [], hW, ?_, ?_, ?_, ?_, fun _ => ?_⟩
  · rw [hfn']; exact hres _ _ _
  · rw [hfn']; exact again' _ hold
  · rw [hfn', hvars]; rfl
  · refine World.keptBut_mono (fun x hx => ?_) hkept
    exact ⟨hx.1, .inr (.inl hx.1)⟩
  · refine ⟨ok_one hrt rfl (okWide_bool_mk hb true), [.lit (.bool true)] ++ ds, [], ([] ++ before) ++ [], ⟨[] ++ before, [], ?_, ?_, rfl, ?_, ?_⟩, ?_⟩
    · exact trodAll_append (again' _ (fun _ _ => rfl)) (hres _ _ _)
    · rw [hvars]; rfl
    · intro b off hp
      have hp' : MemPlace.cell b off ∈ before := by simpa using hp
      rw [hfz ⟨b, off, none⟩ (hlt (MemPlace.cell b off) hp')]
      exact hz b off hp'
    · intro ha
      simpa using hn ha
    · intro x hx _
      simpa using hx

/-- the arguments, read as they came, and a run of the machine that tells true -/
theorem law_lifted {a : Assume} {D : Checked} {X : Ctx} (hX : X.P = D.prog) (hC : CtxOk X) (hG : ∀ g, X.G g = none) {os : Os} {f : FuncId} {fn : Func} {s : ChangeSpec} {conds : List PathCond} {apart fresh handsOn again : Bool} {rt : TypeId}
    (own : ownKnob D.prog.godebug = none) (started : os.Started) (noInit : D.prog.inits.idxOf? f = none) (hfn : D.prog.funcs[f]? = some fn)
    (witness : ∃ (w : World) (tape : Tape) (i : Input), w.os = os ∧ (w.forCall tape i).Shaped D.prog ∧ i.vars = [] ∧ Input.okWide D.prog (w.forCall tape i) .any w.heap.size f i ∧
      s.pre6 enc D.prog fn conds apart (w.forCall tape i).memory i.args ∧ a.holds D.prog (lone (Frame.enter D.prog f i.args .normal) [] (w.forCall tape i)))
    (hrow : laidOutB D.prog = true) (hmap : mapsRowed D.prog = true) (hfull : ∀ t e, t < D.prog.types.size → D.prog.underlying t = some (.slice e) → 0 < D.prog.cellsOf e) (hparams : ∀ t ∈ fn.params.toList, t < D.prog.types.size)
    (hvars : s.vars = []) (hrt : fn.resultTypes = #[rt]) (hb : D.prog.underlying rt = some .bool)
    (hspec : ∀ ds : List (DataW H), ds.length = fn.params.toList.length → s.fn H ds = { results := [.lit (.bool true)], args := ds })
    (run : ∀ (W : World) (base : Nat) (args : Array Value) (ds : List (DataW H)) (ps : List MemPlace),
      (∀ (j : Nat) t v, fn.params[j]? = some t → args[j]? = some v → Value.okWide D.prog W .any base t v) →
      DataW.TrodAll enc D.prog W 0 (fun _ => true) true fn.params.toList args.toList ds ps →
      ∃ n as H', callF X n f as [] = some (.bool true, H') ∧ ArgsRel (start W) (T0 W.heap.size) as args.toList) :
    ReturnsInHanded a D os f .any (s.pre6 enc D.prog fn conds apart) (s.post enc D.prog fn apart fresh handsOn again) := by
  refine returnsInHanded_of_change own started noInit hfn witness ?_
  intro W base args ds gs before hval hW _ _
  obtain ⟨p, q, hA, hV, _, _, _⟩ := id hW
  obtain ⟨n, as, H', h1, h2⟩ := run W base args ds p hval hA
  have hcalls := law_calls hC hG h1 h2
  rw [hX] at hcalls
  refine Calls.mono hcalls fun e W' he => ?_
  obtain ⟨he, hos, hout, hsame⟩ := he
  exact ⟨_, he, law_post hrow hmap hfull hparams hvars hrt hb hW (hspec ds (trodAll_length hA).2) hos hout hsame⟩

end

/-- all drawing regions of the program, at once -/
def drawsAll (C : Ctx) : Bool :=
  (List.range C.P.funcs.size).all fun f => match C.P.funcs[f]? with
    | some fn => match fn.body with
      | some c => drawsOk C f c
      | none => true
    | none => true

theorem ctxOk_of {C : Ctx} (mix : C.P.follows .mixedOrders = true) (h : drawsAll C = true) : CtxOk C where
  mix := mix
  draws := by
    intro f fn c hf hc
    have hlt : f < C.P.funcs.size := (Array.getElem?_eq_some_iff.1 hf).1
    have := List.all_eq_true.1 h f (List.mem_range.2 hlt)
    rw [hf] at this
    simp only [hc] at this
    exact this

def isTrue : Option (AV × Heap) → Bool
  | some (.bool true, _) => true
  | _ => false

theorem isTrue_some {r : Option (AV × Heap)} (h : isTrue r = true) : ∃ H', r = some (.bool true, H') := by
  unfold isTrue at h
  split at h
  · exact ⟨_, rfl⟩
  · cases h

end Go.AM
