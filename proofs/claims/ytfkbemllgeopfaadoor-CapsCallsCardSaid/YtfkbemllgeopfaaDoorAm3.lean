/- The abstract machine, part 3: a deterministic evaluator for the program's code and the proof that what it tells is so. Conditions: none beyond the theorems' own. -/
import Derived.Attr
import Derived.ChangeCalls
import Derived.LaidHandle
import Derived.LaidLaws
import Derived.Lib.LaidTab
import Derived.MakeChecks
import Derived.ProofKit
import Derived.Stop.Joined
import Derived.Test.YtfkbemllgeopfaaDoorAm2
set_option linter.unusedSimpArgs false
set_option linter.unusedVariables false
/- Running code: what exec tells is so. -/
namespace Go.AM

def exOf : Ex → Exit
 | .normal => .normal
 | .exit id => .exit id
 | .ret => .ret

/-- what is left when out is told -/
def Left (C : Ctx) (T : Nat → Nat → Prop) (m : Nat) (K0 : Kx) (nt : Nat) (out : Out) (e : Exit) (a : Act) (w : World) : Prop :=
 e = exOf out.ex ∧ Now C T m K0 nt out.fr out.H a w

theorem least {J : Nat → Prop} (h : ∃ k, J k) : ∃ k, J k ∧ ∀ j, J j → k ≤ j := by
 obtain ⟨k, hk⟩ := h
 induction k using Nat.strongRecOn with
 | _ k ih =>
  by_cases hx : ∃ j, j < k ∧ J j
  ·obtain ⟨j, h1, h2⟩ := hx
   exact ih j h1 h2
  ·exact ⟨k, hk, fun j hj => Nat.le_of_not_lt fun h => hx ⟨j, h, hj⟩⟩

open Classical in
/-- a measure out of a stock of fuels -/
noncomputable def fuelOf (J : Act → World → Nat → Prop) (a : Act) (w : World) : Nat :=
 if h : ∃ k, J a w k then Classical.choose (least h) else 0

theorem fuelOf_spec {J : Act → World → Nat → Prop} {a : Act} {w : World} (h : ∃ k, J a w k) : J a w (fuelOf J a w) ∧ ∀ j, J a w j → fuelOf J a w ≤ j := by
 unfold fuelOf
 rw [dif_pos h]
 exact Classical.choose_spec (least h)

theorem wp_loop_fuel {P : Program} {Q : Exit → Act → World → Prop} {c : Code} {a : Act} {w : World} (J : Act → World → Nat → Prop) (n : Nat) (h0 : J a w n)
  (round : ∀ a w n, J a w n → c.wp P (Exit.then (fun a' w' => ∃ k, k < n ∧ J a' w' k) Q) a w) : (Code.loop c).wp P Q a w := by
 refine wp_loop (fun a w => ∃ k, J a w k) (fuelOf J) ⟨n, h0⟩ fun a w h => ?_
 obtain ⟨h1, h2⟩ := fuelOf_spec h
 refine wp_mono (round a w _ h1) fun e a' w' hq => ?_
 cases e <;> simp only [Exit.then] at hq ⊢ <;> try exact hq
 obtain ⟨k, h3, h4⟩ := hq
 exact ⟨⟨k, h4⟩, Nat.lt_of_le_of_lt ((fuelOf_spec ⟨k, h4⟩).2 k h4) h3⟩

section
variable {C : Ctx} {T : Nat → Nat → Prop} {m nt : Nat} {K0 : Kx}

theorem exec_ok {cf : Cf} (hcf : CfOk C cf) (hct : CfTouch C cf) {f n : Nat} (hmix : C.P.follows .mixedOrders = true) : (c : Code) → drawsOk C f c = true → ∀ {fr : Frame} {H : Heap} {a : Act} {w : World} {out : Out},
  exec C cf f m n c fr H = some out → Now C T m K0 (ntOf C f) fr H a w → c.wp C.P (Left C T m K0 (ntOf C f) out) a w
 | .skip, _, fr, H, a, w, out, h, hN => by
  simp only [exec, Option.some.injEq] at h
  subst h
  exact wp_skip ⟨rfl, hN⟩
 | .region id ops draw, hdr, fr, H, a, w, out, h, hN => by
  simp only [exec] at h
  have hQ : ∀ fr' H', out = afterRegion C f m id fr' H' → ∀ a' w', Now C T m K0 (ntOf C f) fr' H' a' w' → Left C T m K0 (ntOf C f) out .normal a' w' := fun fr' H' e a' w' hN' => by
   subst e
   obtain ⟨h1, h2⟩ := hN'.after f id
   exact ⟨by rw [h1]; rfl, h2⟩
  split at h
  ·rename_i hdy
   simp only [Bool.and_eq_true] at hdy
   obtain ⟨rfl, hdy⟩ := hdy
   simp only [drawsOk, Bool.not_true, hdy, if_true, Bool.false_or] at hdr
   split at h
   ·rename_i fr' H' ms hr
    split at h
    ·rename_i hok
     simp only [Option.some.injEq] at h
     rcases Bool.or_eq_true _ _ ▸ hok with hok | hok
     ·exact draw_dyn hcf hct hmix hdr hr hok hN (hQ fr' H' h.symm)
     ·simp only [Bool.and_eq_true] at hok
      exact draw_twin hcf hct hmix hdr hok.1 hok.2 hr hN (hQ fr' H' h.symm)
    ·cases h
   ·cases h
  ·rename_i hndy
   split at h
   ·cases h
   ·rename_i hd
    split at h
    ·rename_i fr' H' hr
     simp only [Option.some.injEq] at h
     cases draw with
     | true =>
      have hid : C.dr f id = true := by simpa using hd
      have hdy : C.dy f id = false := by simpa using hndy
      simp only [drawsOk, hid, hdy, Bool.not_true, Bool.false_or, Bool.false_eq_true, if_false] at hdr
      exact draw_ok hcf hct hmix hdr hr hN (hQ fr' H' h.symm)
     | false =>
      refine wp_region ?_
      have := runOps_ok hcf (Q := Left C T m K0 (ntOf C f) out) ops.toList 0 rfl hr hN (hQ fr' H' h.symm)
      rwa [Array.length_toList, ← List.range_eq_range'] at this
    ·cases h
 | .seq x y, hdr, fr, H, a, w, out, h, hN => by
  simp only [drawsOk, Bool.and_eq_true] at hdr
  obtain ⟨hd1, hd2⟩ := hdr
  simp only [exec] at h
  split at h
  ·rename_i fr' H' hx
   refine wp_seq (wp_mono (exec_ok hcf hct hmix x hd1 hx hN) fun e a' w' hl => ?_)
   obtain ⟨rfl, hN'⟩ := hl
   exact exec_ok hcf hct hmix y hd2 h hN'
  ·rename_i hne
   refine wp_seq (wp_mono (exec_ok hcf hct hmix x hd1 h hN) fun e a' w' hl => ?_)
   obtain ⟨rfl, hN'⟩ := hl
   cases hx : out.ex with
   | normal =>
    obtain ⟨ex, fr', H'⟩ := out
    simp only at hx
    subst hx
    exact absurd h (hne _ _)
   | exit id => simp only [exOf, Exit.then]; exact ⟨by rw [hx]; rfl, hN'⟩
   | ret => simp only [exOf, Exit.then]; exact ⟨by rw [hx]; rfl, hN'⟩
 | .cond c x y, hdr, fr, H, a, w, out, h, hN => by
  simp only [drawsOk, Bool.and_eq_true] at hdr
  obtain ⟨hd1, hd2⟩ := hdr
  simp only [exec] at h
  split at h
  ·rename_i d hd
   have hc : a.eval c = .bool d := by
    obtain ⟨μ, hI, _, hf, _⟩ := hN
    have := evalO_v hI hf c
    rw [hd] at this
    simpa [VRel, V1Rel, SRel, RV] using this
   refine wp_cond hc ?_
   cases d with
   | true => exact exec_ok hcf hct hmix x hd1 h hN
   | false => exact exec_ok hcf hct hmix y hd2 h hN
  ·cases h
 | .block id c, hdr, fr, H, a, w, out, h, hN => by
  simp only [drawsOk] at hdr
  simp only [exec] at h
  split at h
  ·rename_i id' fr' H' hx
   refine wp_block (wp_mono (exec_ok hcf hct hmix c hdr hx hN) fun e a' w' hl => ?_)
   obtain ⟨rfl, hN'⟩ := hl
   simp only [exOf, Exit.inBlock]
   split at h
   ·rename_i he
    simp only [Option.some.injEq] at h
    subst h
    rw [if_pos he]
    exact ⟨rfl, hN'⟩
   ·rename_i he
    simp only [Option.some.injEq] at h
    subst h
    rw [if_neg he]
    exact ⟨rfl, hN'⟩
  ·rename_i hne
   refine wp_block (wp_mono (exec_ok hcf hct hmix c hdr h hN) fun e a' w' hl => ?_)
   obtain ⟨rfl, hN'⟩ := hl
   cases hx : out.ex with
   | normal => simp only [exOf, Exit.inBlock]; exact ⟨by rw [hx]; rfl, hN'⟩
   | exit id =>
    obtain ⟨ex, fr', H'⟩ := out
    simp only at hx
    subst hx
    exact absurd h (hne _ _ _)
   | ret => simp only [exOf, Exit.inBlock]; exact ⟨by rw [hx]; rfl, hN'⟩
 | .loop c, hdr, fr, H, a, w, out, h, hN => by
  simp only [drawsOk] at hdr
  simp only [exec] at h
  refine wp_loop_fuel (fun a w k => ∃ fr H, loopN (exec C cf f m n c) k fr H = some out ∧ Now C T m K0 (ntOf C f) fr H a w) n ⟨fr, H, h, hN⟩ ?_
  rintro a w k ⟨fr, H, hk, hN⟩
  cases k with
  | zero => simp [loopN] at hk
  | succ k =>
   simp only [loopN] at hk
   split at hk
   ·rename_i fr' H' hx
    refine wp_mono (exec_ok hcf hct hmix c hdr hx hN) fun e a' w' hl => ?_
    obtain ⟨rfl, hN'⟩ := hl
    exact ⟨k, Nat.lt_succ_self k, fr', H', hk, hN'⟩
   ·rename_i hne
    refine wp_mono (exec_ok hcf hct hmix c hdr hk hN) fun e a' w' hl => ?_
    obtain ⟨rfl, hN'⟩ := hl
    cases hx : out.ex with
    | normal =>
     obtain ⟨ex, fr', H'⟩ := out
     simp only at hx
     subst hx
     exact absurd hk (hne _ _)
    | exit id => simp only [exOf, Exit.then]; exact ⟨by rw [hx]; rfl, hN'⟩
    | ret => simp only [exOf, Exit.then]; exact ⟨by rw [hx]; rfl, hN'⟩
 | .exit id, _, fr, H, a, w, out, h, hN => by
  simp only [exec, Option.some.injEq] at h
  subst h
  exact wp_exit ⟨rfl, hN⟩
 | .ret, _, fr, H, a, w, out, h, hN => by
  simp only [exec, Option.some.injEq] at h
  subst h
  exact wp_ret ⟨rfl, hN⟩
 | .scope .., _, fr, H, a, w, out, h, hN => by simp [exec] at h
 | .label .., _, fr, H, a, w, out, h, hN => by simp [exec] at h
 | .goto .., _, fr, H, a, w, out, h, hN => by simp [exec] at h
 | .refuse .., _, fr, H, a, w, out, h, hN => by simp [exec] at h
 | .rangeFunc .., _, fr, H, a, w, out, h, hN => by simp [exec] at h

end

structure CtxOk (C : Ctx) : Prop where
 mix : C.P.follows .mixedOrders = true
 draws : ∀ f fn c, C.P.funcs[f]? = some fn → fn.body = some c → drawsOk C f c = true

section
variable {C : Ctx} {T : Nat → Nat → Prop} {K : Kx}

theorem loadV_var (hI : Inv C K T) {t : TypeId} {a x : AV} {v : Value} (hv : VRel K T a v) (h : loadV C K.H t a = some x) :
  ∃ u, (do loadVar t (← asAddr v) : Sem Value).run C.P K.w = .ok u K.w ∧ VRel K T x u := by
 obtain ⟨u, h1, h2⟩ := loadV_ok hI hv h
 refine ⟨u, ?_, h2⟩
 have : ∃ ad, v = .pointer (some ad) := by
  unfold loadV at h
  split at h
  ·cases h
  ·split at h
   ·rename_i o i f g
    cases hl : live K.H o g with
    | none => rw [hl] at h; cases h
    | some ob =>
     simp only [VRel, V1Rel, SRel] at hv
     obtain ⟨h3, h4⟩ := live_iff.1 hl
     exact ⟨_, ((hv.2.2 ob h3).2 h4).2⟩
   ·simp only [VRel, V1Rel] at hv
    obtain ⟨b, off, h3, _⟩ := hv
    exact ⟨_, h3⟩
   ·cases h
 obtain ⟨ad, rfl⟩ := this
 simp only [Instr.loadAt, Instr.sureAddr, Sem.run_bind, Sem.run_pure, Result.andThen_ok] at h1
 simp only [asAddr, Sem.run_bind, Sem.run_pure, Result.andThen_ok]
 exact h1

def resOne (tmps : Array Value) : ResultVar → Sem Value
 | .tmp t => pure (tmps.getD t undef)
 | .cell a t => do loadVar t (← asAddr (tmps.getD a undef))

theorem resultsV_ok (hI : Inv C K T) {fr : Frame} {tmps : Array Value} (hf : FRel K T fr tmps) : ∀ {rs : List ResultVar} {l : List AV}, resultsV C fr K.H rs = some l →
  ∃ us, (rs.mapM (resOne tmps)).run C.P K.w = .ok us K.w ∧ ArgsRel K T l us
 | [], l, h => by
  simp only [resultsV, Option.some.injEq] at h
  subst h
  exact ⟨[], by simp [Sem.run_pure], trivial⟩
 | .tmp t :: r, l, h => by
  simp only [resultsV] at h
  cases hr : resultsV C fr K.H r with
  | none => rw [hr] at h; cases h
  | some l' =>
   rw [hr] at h
   simp only [Option.map_some, Option.some.injEq] at h
   subst h
   obtain ⟨us, h1, h2⟩ := resultsV_ok hI hf hr
   exact ⟨tmps.getD t undef :: us, by simp only [List.mapM_cons, resOne, Sem.run_bind, Sem.run_pure, Result.andThen_ok, h1], hf t, h2⟩
 | .cell a t :: r, l, h => by
  simp only [resultsV] at h
  split at h
  ·rename_i x l' hx hr
   simp only [Option.some.injEq] at h
   subst h
   obtain ⟨us, h1, h2⟩ := resultsV_ok hI hf hr
   obtain ⟨u, h3, h4⟩ := loadV_var hI (hf a) hx
   refine ⟨u :: us, ?_, h4, h2⟩
   simp only [List.mapM_cons, resOne]
   rw [Sem.run_bind, h3]
   simp only [Result.andThen_ok, Sem.run_bind, h1, Sem.run_pure]
  ·cases h

theorem noTups_v1 : ∀ {l : List AV} {us : List Value}, noTups l = true → ArgsRel K T l us → us.length = l.length ∧ ∀ (j : Nat) (a : AV), l[j]? = some a → ∃ u, us[j]? = some u ∧ V1Rel K T a u
 | [], us, _, h => by rw [h.nil]; simp
 | a :: r, us, hn, h => by
  obtain ⟨v, s, rfl, h1, h2⟩ := h.cons
  have ha : V1Rel K T a v ∧ noTups r = true := by cases a <;> first | exact ⟨h1, hn⟩ | (simp [noTups] at hn; done)
  obtain ⟨h3, h4⟩ := noTups_v1 ha.2 h2
  refine ⟨by simp [h3], fun j b hb => ?_⟩
  cases j with
  | zero =>
   simp only [List.getElem?_cons_zero, Option.some.injEq] at hb
   subst hb
   exact ⟨v, rfl, ha.1⟩
  | succ j => exact h4 j b hb

theorem ArgsRel.len : ∀ {l : List AV} {us : List Value}, ArgsRel K T l us → us.length = l.length
 | [], us, h => by simp [h.nil]
 | a :: r, us, h => by
  obtain ⟨v, s, rfl, h1, h2⟩ := h.cons
  simp [h2.len]

theorem results_ok (hI : Inv C K T) {fr : Frame} {tmps : Array Value} (hf : FRel K T fr tmps) {fn : Func} {l : List AV} (h : resultsV C fr K.H fn.results.toList = some l) :
  ∃ v, (results fn tmps).run C.P K.w = .ok v K.w ∧ VRel K T (resultV l) v := by
 obtain ⟨us, h1, h2⟩ := resultsV_ok hI hf h
 have hlen := h2.len
 refine ⟨if h : us.toArray.size = 1 then us.toArray[0] else .tuple us.toArray, ?_, ?_⟩
 ·have : results fn tmps = (do let vs ← fn.results.mapM (resOne tmps); pure (if h : vs.size = 1 then vs[0] else .tuple vs)) := rfl
  rw [this, Array.mapM_eq_mapM_toList]
  simp only [Sem.run_bind, map_eq_pure_bind, h1, Result.andThen_ok, Sem.run_pure]
 ·split
  ·rename_i hs
   simp only [List.size_toArray] at hs
   rw [hs] at hlen
   cases l with
   | nil => simp at hlen
   | cons a r =>
    cases r with
    | nil =>
     obtain ⟨v, s, rfl, h3, h4⟩ := h2.cons
     exact h3
    | cons => simp at hlen
  ·rename_i hs
   simp only [List.size_toArray] at hs
   have : resultV l = if noTups l then .tup l else .top := by
    cases l with
    | nil => rfl
    | cons a r =>
     cases r with
     | nil => simp at hlen; exact absurd hlen hs
     | cons => rfl
   rw [this]
   split
   ·rename_i hn
    obtain ⟨h3, h4⟩ := noTups_v1 hn h2
    simp only [VRel]
    exact ⟨us.toArray, rfl, by simpa using h3, fun j a ha => by obtain ⟨u, h5, h6⟩ := h4 j a ha; exact ⟨u, by simpa using h5, h6⟩⟩
   ·exact VRel.top _ _ _

theorem numbered_rel : ∀ {l : List AV} {us : List Value} {k : Nat}, ArgsRel K T l us → ∀ i, (k ≤ i ∧ i < k + us.length ∧ ∃ u, us[i - k]? = some u ∧ VRel K T (getF (numbered k l) i) u) ∨ getF (numbered k l) i = .top
 | [], us, k, _, i => .inr rfl
 | a :: r, us, k, h, i => by
  obtain ⟨v, s, rfl, h1, h2⟩ := h.cons
  simp only [numbered, getF]
  split
  ·rename_i hk
   subst hk
   left
   refine ⟨Nat.le_refl _, by simp, v, by simp, h1⟩
  ·rcases numbered_rel (k := k + 1) h2 i with ⟨h3, h4, u, h5, h6⟩ | h3
   ·left
    simp only [List.length_cons]
    refine ⟨by omega, by omega, u, ?_, h6⟩
    rw [show i - k = (i - (k + 1)) + 1 by omega]
    simpa using h5
   ·exact .inr h3

theorem runBody_ok (hC : CtxOk C) {cf : Cf} (hcf : CfOk C cf) (hct : CfTouch C cf) (n : Nat) : CfOk C (runBody C cf n) := by
 intro f args H x H' h K T vs hK hI ha
 subst hK
 unfold runBody at h
 split at h
 ·cases h
 ·rename_i fn hF
  split at h
  ·cases h
  ·rename_i c hc
   refine calls_of_wp hF hc ?_
   have hN : Now C T K.H.length K (ntOf C f) (numbered 0 args) K.H { tmps := vs ++ Array.replicate (fn.ntmps - vs.size) undef, defers := [] } K.w := by
    refine ⟨K.μ, hI, Evo.refl T K (Nat.le_refl _), fun i => ?_, ?_, rfl⟩
    ·rcases numbered_rel (k := 0) ha i with ⟨_, h2, u, h3, h4⟩ | h1
     ·rw [Nat.sub_zero] at h3
      have : (vs ++ Array.replicate (fn.ntmps - vs.size) undef).getD i undef = u := by
       have hlt : i < vs.size := by simpa using h2
       rw [Array.getD_eq_getD_getElem?, Array.getElem?_append_left hlt, ← Array.getElem?_toList, h3]
       rfl
      rw [this]
      exact h4
     ·rw [h1]; exact VRel.top _ _ _
    ·simp only [ntOf, hF, Option.map_some, Option.getD_some, Array.size_append, Array.size_replicate]
     omega
   have key : ∀ (out : Out), exec C cf f K.H.length n c (numbered 0 args) K.H = some out → (out.ex = .normal ∨ out.ex = .ret) → (resultsV C out.fr out.H fn.results.toList).map (fun l => (resultV l, out.H)) = some (x, H') →
     c.wp C.P (bodyPost C.P fn (Gives C T K x H')) { tmps := vs ++ Array.replicate (fn.ntmps - vs.size) undef, defers := [] } K.w := by
    intro out hout hex hres
    refine wp_mono (exec_ok hcf hct hC.mix c (hC.draws f fn c hF hc) hout hN) fun e a' w' hl => ?_
    obtain ⟨rfl, μ, hI', hE, hf, _, hd⟩ := hl
    cases hr : resultsV C out.fr out.H fn.results.toList with
    | none => rw [hr] at hres; cases hres
    | some l =>
     rw [hr] at hres
     simp only [Option.map_some, Option.some.injEq, Prod.mk.injEq] at hres
     obtain ⟨rfl, rfl⟩ := hres
     obtain ⟨v, h1, h2⟩ := results_ok hI' hf hr
     rcases hex with hex | hex <;> rw [hex] <;> exact ⟨hd, v, h1, μ, hI', hE, h2⟩
   split at h
   ·rename_i fr' H1 hx
    exact key _ hx (.inl rfl) h
   ·rename_i fr' H1 hx
    exact key _ hx (.inr rfl) h
   ·cases h

theorem callF_ok (hC : CtxOk C) : ∀ n, CfOk C (callF C n)
 | 0 => by intro f args H x H' h; simp [callF] at h
 | n + 1 => by
  have := enterV_ok (runBody_ok hC (callF_ok hC n) (callF_touch n) n)
  exact this

end

end Go.AM

/- A law's statement out of a run of the abstract machine. -/
namespace Go.AM
open Go.ChangeShapes Go.WideShapes Go.ChangeAt Go.RowKit

/-- tags: 0: what is new; the others: all -/
def T0 (n : Nat) (t b : Nat) : Prop := n ≤ b ∨ t ≠ 0

def start (W : World) : Kx := ⟨fun _ => default, [], W⟩

theorem start_own (W : World) (b : Nat) : ¬ Own (start W) b := by
 rintro ⟨o, ob, h, _⟩
 simp [start] at h

/-- the package variables that the machine reads hold what it takes them to hold -/
def GOk (C : Ctx) (W : World) : Prop := ∀ g p, C.G g = some p → plen p ≠ 0 ∧ g < W.heap.size ∧ RP W (fun b => b < W.heap.size) p (fun j => W.cell? ⟨g, j, none⟩)

theorem GOk.none {C : Ctx} (hG : ∀ g, C.G g = none) (W : World) : GOk C W := fun g p h => by rw [hG] at h; cases h

theorem start_inv {C : Ctx} {W : World} (hG : GOk C W) : Inv C (start W) (T0 W.heap.size) where
 obj := fun o ob h => by simp [start] at h
 inj := fun o o' ob ob' h => by simp [start] at h
 own := fun b h => absurd h (start_own W b)
 new := fun b h => .inl h
 mono := fun t b h => by
  rcases h with h | h
  ·exact .inl h
  ·exact absurd rfl h
 glob := fun g p h => by
  obtain ⟨h1, h2, h3⟩ := hG g p h
  have hn : ∀ b, b < W.heap.size → NT (start W) (T0 W.heap.size) gtag b := fun b hb => ⟨.inr (by simp [gtag]), start_own W b, hb⟩
  exact ⟨h1, hn g h2, RP_mono (w' := (start W).w) (fun b hb => ⟨hn b hb, fun _ _ h => h⟩) p _ _ (fun _ _ h => h) h3⟩

/-- what a law's run says -/
def LawEnds (W : World) (e : Ending) (W' : World) : Prop :=
 e = .returned (.bool true) ∧ W'.os = W.os ∧ W'.output = W.output ∧ ∀ b : Nat, b < W.heap.size → W'.heap[b]? = W.heap[b]?

theorem law_calls {C : Ctx} (hC : CtxOk C) {n f : Nat} {args : List AV} {vs : Array Value} {W : World} {H' : Heap} (hG : GOk C W) (h : callF C n f args [] = some (.bool true, H'))
  (ha : ArgsRel (start W) (T0 W.heap.size) args vs.toList) : Calls C.P f vs W (LawEnds W) := by
 have := callF_ok hC n f args [] _ H' h (start W) (T0 W.heap.size) vs rfl (start_inv hG) ha
 refine Calls.mono this fun e W' he => ?_
 cases e with
 | panicked => exact he.elim
 | outgrown => exact he.elim
 | returned v =>
  obtain ⟨μ, hI, hE, hv⟩ := he
  simp only [VRel, V1Rel, SRel, RV] at hv
  subst hv
  refine ⟨rfl, hE.os, hE.output, fun b hb => hE.exact b hb (start_own W b) ?_⟩
  rintro (h | h)
  ·have : b < W.heap.size := hb
   omega
  ·exact h rfl

section
variable {H : Type} {enc : TypeId × Value → H}

theorem law_post {P : Program} {f : Func} {s : ChangeSpec} {apart fresh handsOn again : Bool} {W W' : World} {args : Array Value} {ds gs : List (DataW H)} {before : List MemPlace} {rt : TypeId}
  (hrow : laidOutB P = true) (hmap : mapsRowed P = true) (hfull : ∀ t e, t < P.types.size → P.underlying t = some (.slice e) → 0 < P.cellsOf e) (hparams : ∀ t ∈ f.params.toList, t < P.types.size)
  (hvars : s.vars = []) (hrt : f.resultTypes = #[rt]) (hb : P.underlying rt = some .bool)
  (hW : DataW.Whole enc P f.params.toList s.vars apart W args.toList ds gs before) (hfn : s.fn H ds = { results := [.lit (.bool true)], args := ds })
  (hos : W'.os = W.os) (hout : W'.output = W.output) (hsame : ∀ b : Nat, b < W.heap.size → W'.heap[b]? = W.heap[b]?) :
  s.post enc P f apart fresh handsOn again W args (.bool true) W' := by
 have hlt := hW.lt
 have hcell : ∀ b off, b < W.heap.size → W'.cell? ⟨b, off, none⟩ = W.cell? ⟨b, off, none⟩ := fun b off h => cell_of_heap (hsame b h) off
 have hfz : ∀ a : Addr, a.block < W.heap.size → W'.frozen? a = W.frozen? a := fun a h => by unfold World.frozen?; rw [hsame _ h]
 have hat : ∀ p ∈ before, W.sameAt W' p := by
  intro p hp
  have := hlt p hp
  cases p with
  | cell b off => exact hcell b off this
  | map b => exact hsame b this
 have K := kids_rows hrow hmap
 obtain ⟨p, q, hA, hV, hps, hz, hn⟩ := id hW
 rw [hvars] at hV
 obtain ⟨rfl, rfl⟩ := trodVars_none hV
 simp only [List.append_nil] at hps
 subst hps
 -- the arguments again
 have again' : ∀ sp : Nat → Bool, (∀ x ∈ before, sp x.block = true) → DataW.TrodAll enc P W' 0 sp true f.params.toList args.toList ds before := by
  intro sp hsp
  have carry : ∀ {ts : List TypeId} {vs : List Value} {ds : List (DataW H)} {ps : List MemPlace}, DataW.TrodAll enc P W 0 (fun _ => true) true ts vs ds ps → (∀ x ∈ ps, W.sameAt W' x) → DataW.TrodAll enc P W' 0 (fun _ => true) true ts vs ds ps := by
   intro ts
   induction ts with
   | nil => intro vs ds ps h _; cases vs <;> cases ds <;> first | exact h | exact h.elim
   | cons t ts ih =>
    intro vs ds ps h hs
    cases vs with
    | nil => exact h.elim
    | cons v vs =>
     cases ds with
     | nil => exact h.elim
     | cons d ds =>
      obtain ⟨a, b, ⟨n, h1⟩, h2, e⟩ := h
      subst e
      exact ⟨a, b, ⟨n, DataW.trod_carry n t _ _ h1 fun x hx => hs x (List.mem_append_left _ hx)⟩, ih h2 fun x hx => hs x (List.mem_append_right _ hx), rfl⟩
  exact DataW.TrodAll.respare K hfull hparams (carry hA hat) hsp
 have hres : ∀ (b : Nat) (sp : Nat → Bool) (hd : Bool), DataW.TrodAll enc P W' b sp hd f.resultTypes.toList ((Value.bool true).resultList f.resultTypes.size) [.lit (.bool true)] [] := by
  intro b sp hd
  rw [hrt]
  exact trodAll_mk1 (shut_bool hb true)
 have hfn' : s.fn H (ds ++ []) = { results := [.lit (.bool true)], args := ds } := by rw [List.append_nil]; exact hfn
 have hold : ∀ x ∈ before, (fun b => decide (b < W.heap.size)) x.block = true := fun x hx => by simpa using hlt x hx
 have hkept : W.keptBut W' (fun x => x ∈ before ∧ x ∈ before ++ []) := by
  refine ⟨hos, hout, fun i hi => ?_⟩
  rw [hsame i hi]
  generalize W.heap[i]? = x
  rcases x with _ | x
  ·rfl
  ·cases x <;> simp
 refine ⟨ds, [], before, [], before, [], hW, ?_, ?_, ?_, ?_, fun _ => ?_⟩
 ·rw [hfn']; exact hres _ _ _
 ·rw [hfn']; exact again' _ hold
 ·rw [hfn', hvars]; rfl
 ·refine World.keptBut_mono (fun x hx => ?_) hkept
  exact ⟨hx.1, .inr (.inl hx.1)⟩
 ·refine ⟨ok_one hrt rfl (okWide_bool_mk hb true), [.lit (.bool true)] ++ ds, [], ([] ++ before) ++ [], ⟨[] ++ before, [], ?_, ?_, rfl, ?_, ?_⟩, ?_⟩
  ·exact trodAll_append (again' _ (fun _ _ => rfl)) (hres _ _ _)
  ·rw [hvars]; rfl
  ·intro b off hp
   have hp' : MemPlace.cell b off ∈ before := by simpa using hp
   rw [hfz ⟨b, off, none⟩ (hlt (MemPlace.cell b off) hp')]
   exact hz b off hp'
  ·intro ha
   simpa using hn ha
  ·intro x hx _
   simpa using hx

/-- the same where the row lists what package variables hold -/
theorem law_lifted_laid {a : Assume} {D : Checked} {X : Ctx} (hX : X.P = D.prog) (hC : CtxOk X) {laid : List (String × DataW Unit)} (hG : ∀ W : World, laidMetH D.prog laid W → GOk X W)
  {os : Os} {f : FuncId} {fn : Func} {s : ChangeSpec} {conds : List PathCond} {apart fresh handsOn again : Bool} {rt : TypeId}
  (own : ownKnob D.prog.godebug = none) (started : os.Started) (noInit : D.prog.inits.idxOf? f = none) (hfn : D.prog.funcs[f]? = some fn)
  (witness : ∃ (w : World) (tape : Tape) (i : Input), w.os = os ∧ (w.forCall tape i).Shaped D.prog ∧ i.vars = [] ∧ Input.okWide D.prog (w.forCall tape i) .any w.heap.size f i ∧
   ((s.pre enc D.prog fn conds apart (w.forCall tape i).memory i.args ∧ laidMetH D.prog laid (w.forCall tape i).memory) ∧ sizedMet enc D.prog fn (OpenSpec.ofChange s) apart (w.forCall tape i).memory i.args) ∧
   a.holds D.prog (lone (Frame.enter D.prog f i.args .normal) [] (w.forCall tape i)))
  (hrow : laidOutB D.prog = true) (hmap : mapsRowed D.prog = true) (hfull : ∀ t e, t < D.prog.types.size → D.prog.underlying t = some (.slice e) → 0 < D.prog.cellsOf e) (hparams : ∀ t ∈ fn.params.toList, t < D.prog.types.size)
  (hvars : s.vars = []) (hrt : fn.resultTypes = #[rt]) (hb : D.prog.underlying rt = some .bool)
  (hspec : ∀ ds : List (DataW H), ds.length = fn.params.toList.length → s.fn H ds = { results := [.lit (.bool true)], args := ds })
  (run : ∀ (W : World) (base : Nat) (args : Array Value) (ds : List (DataW H)) (ps : List MemPlace),
   (∀ (j : Nat) t v, fn.params[j]? = some t → args[j]? = some v → Value.okWide D.prog W .any base t v) →
   DataW.TrodAll enc D.prog W 0 (fun _ => true) true fn.params.toList args.toList ds ps →
   ∃ n as H', callF X n f as [] = some (.bool true, H') ∧ ArgsRel (start W) (T0 W.heap.size) as args.toList) :
  ReturnsInHanded a D os f .any (fun w args => (s.pre enc D.prog fn conds apart w args ∧ laidMetH D.prog laid w) ∧ sizedMet enc D.prog fn (OpenSpec.ofChange s) apart w args) (s.post enc D.prog fn apart fresh handsOn again) := by
 refine returnsInHanded_of_change_and (X := fun w _ => laidMetH D.prog laid w) (fun _ _ _ hh h => h.of_heap hh) own started noInit hfn witness ?_
 intro W base args ds gs before hval hW _ _ hL _
 obtain ⟨p, q, hA, hV, _, _, _⟩ := id hW
 obtain ⟨n, as, H', h1, h2⟩ := run W base args ds p hval hA
 have hcalls := law_calls hC (hG W hL) h1 h2
 rw [hX] at hcalls
 refine Calls.mono hcalls fun e W' he => ?_
 obtain ⟨he, hos, hout, hsame⟩ := he
 exact ⟨_, he, law_post hrow hmap hfull hparams hvars hrt hb hW (hspec ds (trodAll_length hA).2) hos hout hsame⟩

end

/-- all drawing regions of the program, at once -/
def drawsAll (C : Ctx) : Bool :=
 (List.range C.P.funcs.size).all fun f => match C.P.funcs[f]? with
  | some fn => match fn.body with
   | some c => drawsOk C f c
   | none => true
  | none => true

theorem ctxOk_of {C : Ctx} (mix : C.P.follows .mixedOrders = true) (h : drawsAll C = true) : CtxOk C where
 mix := mix
 draws := by
  intro f fn c hf hc
  have hlt : f < C.P.funcs.size := (Array.getElem?_eq_some_iff.1 hf).1
  have := List.all_eq_true.1 h f (List.mem_range.2 hlt)
  rw [hf] at this
  simp only [hc] at this
  exact this

def isTrue : Option (AV × Heap) → Bool
 | some (.bool true, _) => true
 | _ => false

def litVal : Lit → Value
 | .bool b => .bool b
 | .int k n => .int k n
 | .string b => .string ⟨⟨b⟩⟩
 | _ => undef

mutual
/-- a plain datum's cells -/
def cellsD : DataW Unit → List Value
 | .lit l => [litVal l]
 | .agg ps => cellsDs ps
 | _ => [undef]
def cellsDs : List (DataW Unit) → List Value
 | [] => []
 | d :: r => cellsD d ++ cellsDs r
end

/-- a world whose listed variables hold what is listed -/
noncomputable def laidWorld (P : Program) (os : Os) (laid : List (String × DataW Unit)) : World :=
 let w0 := World.holding P os ⟨#[], #[], []⟩
 { w0 with heap := laid.foldl (fun h x => match P.globalNamed x.1 with
   | some g => h.modify g fun
    | .cells _ t frozen => .cells (cellsD x.2).toArray t frozen
    | o => o
   | none => h) w0.heap }

end Go.AM

/- Package variables that are tables of integers: what a row lists is what the machine reads. -/
namespace Go.AM
open Go.Lib

/-- one variable's payload is what its block holds -/
def GOne (W : World) (g : Nat) (p : AV) : Prop := plen p ≠ 0 ∧ g < W.heap.size ∧ RP W (fun b => b < W.heap.size) p (fun j => W.cell? ⟨g, j, none⟩)

/-- a listed table, wherever it stands -/
theorem tab_listed {P : Program} {W : World} {name : String} {k : IntKind} {zs : List Int} {g : Nat} {t e : TypeId} {n : Nat}
  (hg : P.globalNamed name = some g) (hty : (P.globals[g]?).map (·.type) = some t) (ht : P.underlying t = some (.array n e)) (he : P.underlying e = some (.int k)) (hce : P.cellsOf e = 1) (hct : P.cellsOf t = n) :
  ∀ {l : List (String × DataW Unit)} {ps : List MemPlace}, DataW.LaidVars P W l ps → (name, (tabData k zs : DataW Unit)) ∈ l → TabIs P W name k zs
 | [], _, _, hm => by simp at hm
 | (m, d) :: r, ps, h, hm => by
  obtain ⟨g0, t0, cs, fuel, p, q, e1, e2, e3, e4, hr, _⟩ := h
  by_cases hx : (name, (tabData k zs : DataW Unit)) ∈ r
  ·exact tab_listed hg hty ht he hce hct hr hx
  ·have hd : (name, (tabData k zs : DataW Unit)) = (m, d) := by
    rcases List.mem_cons.1 hm with e0 | e0
    ·exact e0
    ·exact absurd e0 hx
   cases hd
   have : g0 = g := Option.some.inj (e1.symm.trans hg)
   subst this
   have : t0 = t := Option.some.inj (e2.symm.trans hty)
   subst this
   unfold TabIs
   rw [e3, ← cells_of_tab ht he hce hct e4]

theorem tab_cells {P : Program} {W : World} {laid : List (String × DataW Unit)} {name : String} {k : IntKind} {zs : List Int} {g : Nat} {t e : TypeId} {n : Nat} (hm : (name, (tabData k zs : DataW Unit)) ∈ laid)
  (hg : P.globalNamed name = some g) (hty : (P.globals[g]?).map (·.type) = some t) (ht : P.underlying t = some (.array n e)) (he : P.underlying e = some (.int k)) (hce : P.cellsOf e = 1) (hct : P.cellsOf t = n)
  (h : laidMet P laid W) : TabIs P W name k zs := by
 obtain ⟨ps, hv, _⟩ := h
 exact tab_listed hg hty ht he hce hct hv hm

theorem gone_int {P : Program} {W : World} {name : String} {k : IntKind} {zs : List Int} {g : Nat} (h : TabIs P W name k zs) (hg : P.globalNamed name = some g) (hn : (zs.length != 0) = true) : GOne W g (.pi k zs) := by
 have hc : ∀ i, i < zs.length → W.cell? ⟨g, i, none⟩ = some (.int k (zs.getD i 0)) := fun i hi => h.cell hg i hi
 refine ⟨by simpa [plen] using hn, block_lt_of_cell (hc 0 (Nat.pos_of_ne_zero (bne_iff_ne.1 hn))), ?_⟩
 rw [RP]
 intro j z hz
 have hj : j < zs.length := (List.getElem?_eq_some_iff.1 hz).1
 rw [hc j hj, List.getD_eq_getElem?_getD, hz]
 rfl

theorem gone_bytes {P : Program} {W : World} {name : String} {l : List UInt8} {g : Nat} (h : TabIs P W name .u8 (l.map fun b => (b.toNat : Int))) (hg : P.globalNamed name = some g) (hn : (l.length != 0) = true) : GOne W g (.pb l) := by
 have hc : ∀ i, i < (l.map fun b => (b.toNat : Int)).length → W.cell? ⟨g, i, none⟩ = some (.int .u8 ((l.map fun b => (b.toNat : Int)).getD i 0)) := fun i hi => h.cell hg i hi
 refine ⟨by simpa [plen] using hn, block_lt_of_cell (hc 0 (by rw [List.length_map]; exact Nat.pos_of_ne_zero (bne_iff_ne.1 hn))), ?_⟩
 rw [RP]
 intro j b hb
 have hj : j < l.length := (List.getElem?_eq_some_iff.1 hb).1
 rw [hc j (by simpa using hj), List.getD_eq_getElem?_getD, List.getElem?_map, hb]
 rfl

/-- a list of variables -/
def globF (L : List (Nat × AV)) (g : Nat) : Option AV := (L.find? fun x => x.1 == g).map (·.2)

theorem gok_list {C : Ctx} {W : World} {L : List (Nat × AV)} (hC : C.G = globF L) (h : ∀ x ∈ L, GOne W x.1 x.2) : GOk C W := by
 intro g p hp
 rw [hC] at hp
 unfold globF at hp
 obtain ⟨x, hx, rfl⟩ := Option.map_eq_some_iff.1 hp
 have h1 := h x (List.mem_of_find?_eq_some hx)
 have h2 := List.find?_some hx
 simp only [beq_iff_eq] at h2
 rw [← h2]
 exact h1

end Go.AM

/- What is told with known calls: runs over a table of calls. -/
namespace Go.AM

section
variable {C : Ctx}

/-- the call tells r, whatever fuel is left over -/
def Ev1 (C : Ctx) (f : Nat) (args : List AV) (H : Heap) (r : AV × Heap) : Prop := ∃ n0, ∀ n, n0 ≤ n → callF C n f args H = some r

/-- what the table tells is so -/
def Below (C : Ctx) (T : Cf) : Prop := ∀ f args H r, T f args H = some r → Ev1 C f args H r

theorem step_ev {T : Cf} (hT : Below C T) {fr : Frame} {H : Heap} {o : Oper} {r : AV × Heap} (h : step C T fr H o = some r) : ∃ n0, ∀ n, n0 ≤ n → step C (callF C n) fr H o = some r := by
 obtain ⟨dst, op, type, pos, after, guard⟩ := o
 cases op <;> try exact ⟨0, fun _ _ => h⟩
 case makeFunc fn first caps => cases fn <;> exact ⟨0, fun _ _ => h⟩
 case call c =>
  simp only [step, callV] at h ⊢
  cases hc : c.callee with
  | builtin b => rw [hc] at h; exact ⟨0, fun _ _ => h⟩
  | value x =>
   rw [hc] at h
   simp only at h ⊢
   split at h
   ·rename_i f caps he
    split at h
    ·obtain ⟨n0, hn⟩ := hT _ _ _ _ h
     refine ⟨n0, fun n hl => ?_⟩
     rename_i hb
     rw [if_pos hb]
     exact hn n hl
    ·cases h
   ·cases h
  | invoke r n => rw [hc] at h; cases h

theorem out1_ev {T : Cf} (hT : Below C T) {nt : Nat} {ops : Array Oper} {o : Oper} {fr : Frame} {H : Heap} {r : AV × Heap} (h : out1 C T nt ops o fr H = some r) : ∃ n0, ∀ n, n0 ≤ n → out1 C (callF C n) nt ops o fr H = some r := by
 unfold out1 at h ⊢
 split at h
 ·rename_i hd
  simp only [hd, if_true]
  split at h
  ·exact step_ev hT h
  ·exact ⟨0, fun _ _ => h⟩
  ·cases h
 ·cases h

theorem runOps_ev {T : Cf} (hT : Below C T) {nt : Nat} {ops : Array Oper} : ∀ {l : List Oper} {fr : Frame} {H : Heap} {r : Frame × Heap}, runOps C T nt ops l fr H = some r → ∃ n0, ∀ n, n0 ≤ n → runOps C (callF C n) nt ops l fr H = some r
 | [], fr, H, r, h => ⟨0, fun _ _ => h⟩
 | o :: l, fr, H, r, h => by
  rw [runOps_cons] at h
  split at h
  ·rename_i v H1 hv
   obtain ⟨n0, h0⟩ := out1_ev hT hv
   obtain ⟨n1, h1⟩ := runOps_ev hT h
   refine ⟨max n0 n1, fun n hn => ?_⟩
   rw [runOps_cons, h0 n (by omega)]
   exact h1 n (by omega)
  ·cases h

theorem runD_ev {T : Cf} (hT : Below C T) {nt : Nat} {ops : Array Oper} : ∀ {l : List Oper} {fr : Frame} {H : Heap} {r : Frame × Heap × List Mark}, runD C T nt ops l fr H = some r → ∃ n0, ∀ n, n0 ≤ n → runD C (callF C n) nt ops l fr H = some r
 | [], fr, H, r, h => ⟨0, fun _ _ => h⟩
 | o :: l, fr, H, r, h => by
  simp only [runD] at h
  split at h
  ·rename_i v H1 hv
   split at h
   ·rename_i fr' H2 ms hr
    obtain ⟨n0, h0⟩ := out1_ev hT hv
    obtain ⟨n1, h1⟩ := runD_ev hT hr
    refine ⟨max n0 n1, fun n hn => ?_⟩
    simp only [runD]
    rw [h0 n (by omega)]
    simp only
    rw [h1 n (by omega)]
    exact h
   ·cases h
  ·cases h

theorem exec_ev {T : Cf} (hT : Below C T) {f m k : Nat} : (c : Code) → ∀ {fr : Frame} {H : Heap} {out : Out}, exec C T f m k c fr H = some out → ∃ n0, ∀ n, n0 ≤ n → ∀ k', k ≤ k' → exec C (callF C n) f m k' c fr H = some out
 | .skip, fr, H, out, h => ⟨0, fun _ _ _ _ => h⟩
 | .region id ops draw, fr, H, out, h => by
  simp only [exec] at h ⊢
  split at h
  ·rename_i hd
   simp only [hd, if_true]
   split at h
   ·rename_i fr' H' ms hr
    obtain ⟨n0, h0⟩ := runD_ev hT hr
    refine ⟨n0, fun n hn k' _ => ?_⟩
    rw [h0 n hn]
    exact h
   ·cases h
  ·rename_i hd
   simp only [hd, Bool.false_eq_true, if_false]
   split at h
   ·cases h
   ·rename_i hd2
    simp only [hd2, Bool.false_eq_true, if_false]
    split at h
    ·rename_i fr' H' hr
     obtain ⟨n0, h0⟩ := runOps_ev hT hr
     refine ⟨n0, fun n hn k' _ => ?_⟩
     rw [h0 n hn]
     exact h
    ·cases h
 | .seq a b, fr, H, out, h => by
  simp only [exec] at h ⊢
  split at h
  ·rename_i fr' H' ha
   obtain ⟨n0, h0⟩ := exec_ev hT a ha
   obtain ⟨n1, h1⟩ := exec_ev hT b h
   refine ⟨max n0 n1, fun n hn k' hk => ?_⟩
   rw [h0 n (by omega) k' hk]
   exact h1 n (by omega) k' hk
  ·rename_i hne
   obtain ⟨n0, h0⟩ := exec_ev hT a h
   refine ⟨n0, fun n hn k' hk => ?_⟩
   rw [h0 n hn k' hk]
   obtain ⟨ex, fr', H'⟩ := out
   cases ex with
   | normal => exact absurd h (hne _ _)
   | exit id => rfl
   | ret => rfl
 | .cond c a b, fr, H, out, h => by
  simp only [exec] at h ⊢
  split at h
  ·rename_i d hd
   cases d with
   | true => exact exec_ev hT a h
   | false => exact exec_ev hT b h
  ·cases h
 | .block id c, fr, H, out, h => by
  simp only [exec] at h ⊢
  split at h
  ·rename_i id' fr' H' hc
   obtain ⟨n0, h0⟩ := exec_ev hT c hc
   refine ⟨n0, fun n hn k' hk => ?_⟩
   rw [h0 n hn k' hk]
   exact h
  ·rename_i hne
   obtain ⟨n0, h0⟩ := exec_ev hT c h
   refine ⟨n0, fun n hn k' hk => ?_⟩
   rw [h0 n hn k' hk]
   obtain ⟨ex, fr', H'⟩ := out
   cases ex with
   | normal => rfl
   | exit id => exact absurd h (hne _ _ _)
   | ret => rfl
 | .loop c, fr, H, out, h => by
  simp only [exec] at h ⊢
  have key : ∀ j, ∀ {fr : Frame} {H : Heap}, loopN (exec C T f m k c) j fr H = some out → ∃ n0, ∀ n, n0 ≤ n → ∀ k', k ≤ k' → ∀ j', j ≤ j' → loopN (exec C (callF C n) f m k' c) j' fr H = some out := by
   intro j
   induction j with
   | zero => intro fr H h; simp [loopN] at h
   | succ j ih =>
    intro fr H h
    simp only [loopN] at h
    split at h
    ·rename_i fr' H' hc
     obtain ⟨n0, h0⟩ := exec_ev hT c hc
     obtain ⟨n1, h1⟩ := ih h
     refine ⟨max n0 n1, fun n hn k' hk j' hj => ?_⟩
     obtain ⟨j', rfl⟩ : ∃ i, j' = i + 1 := ⟨j' - 1, by omega⟩
     simp only [loopN]
     rw [h0 n (by omega) k' hk]
     exact h1 n (by omega) k' hk j' (by omega)
    ·rename_i hne
     obtain ⟨n0, h0⟩ := exec_ev hT c h
     refine ⟨n0, fun n hn k' hk j' hj => ?_⟩
     obtain ⟨j', rfl⟩ : ∃ i, j' = i + 1 := ⟨j' - 1, by omega⟩
     simp only [loopN]
     rw [h0 n hn k' hk]
     obtain ⟨ex, fr', H'⟩ := out
     cases ex with
     | normal => exact absurd h (hne _ _)
     | exit id => rfl
     | ret => rfl
  obtain ⟨n0, h0⟩ := key k h
  exact ⟨n0, fun n hn k' hk => h0 n hn k' hk k' hk⟩
 | .exit id, fr, H, out, h => ⟨0, fun _ _ _ _ => h⟩
 | .ret, fr, H, out, h => ⟨0, fun _ _ _ _ => h⟩
 | .scope .., fr, H, out, h => by simp [exec] at h
 | .label .., fr, H, out, h => by simp [exec] at h
 | .goto .., fr, H, out, h => by simp [exec] at h
 | .refuse .., fr, H, out, h => by simp [exec] at h
 | .rangeFunc .., fr, H, out, h => by simp [exec] at h

theorem runBody_ev {T : Cf} (hT : Below C T) {k f : Nat} {args : List AV} {H : Heap} {r : AV × Heap} (h : runBody C T k f args H = some r) : ∃ n0, ∀ n, n0 ≤ n → runBody C (callF C n) n f args H = some r := by
 unfold runBody at h ⊢
 cases hF : C.P.funcs[f]? with
 | none => rw [hF] at h; cases h
 | some fn =>
  rw [hF] at h
  simp only at h ⊢
  cases hb : fn.body with
  | none => rw [hb] at h; cases h
  | some c =>
   rw [hb] at h
   simp only at h ⊢
   cases he : exec C T f H.length k c (numbered 0 args) H with
   | none => rw [he] at h; cases h
   | some out =>
    obtain ⟨n0, h0⟩ := exec_ev hT c he
    refine ⟨max n0 k, fun n hn => ?_⟩
    rw [h0 n (by omega) n (by omega)]
    rw [he] at h
    exact h

/-- a call whose body is run over a table -/
theorem enter_ev {T : Cf} (hT : Below C T) {k f : Nat} {args : List AV} {H : Heap} {r : AV × Heap} (h : enterV C (runBody C T k) f args H = some r) : Ev1 C f args H r := by
 unfold enterV at h
 split at h
 ·cases h
 ·rename_i as lents hl
  simp only at h
  split at h
  ·rename_i hc
   split at h
   ·cases h
   ·rename_i v H1 hb
    obtain ⟨n0, h0⟩ := runBody_ev hT hb
    refine ⟨n0 + 1, fun n hn => ?_⟩
    obtain ⟨n, rfl⟩ : ∃ i, n = i + 1 := ⟨n - 1, by omega⟩
    show enterV C (runBody C (callF C n) n) f args H = some r
    unfold enterV
    rw [hl]
    simp only
    rw [if_pos hc, h0 n (by omega)]
    exact h
  ·cases h

theorem Below.none : Below C (fun _ _ _ => none) := by intro f args H r h; cases h

/-- calls out of the table, the others run -/
def callT (C : Ctx) (T : Cf) : Nat → Cf
 | 0, f, args, H => T f args H
 | n + 1, f, args, H => match T f args H with
  | some r => some r
  | none => enterV C (runBody C (callT C T n) n) f args H

theorem callT_below {T : Cf} (hT : Below C T) : ∀ n, Below C (callT C T n)
 | 0 => hT
 | n + 1 => by
  intro f args H r h
  simp only [callT] at h
  split at h
  ·rename_i r' hr
   rw [← Option.some.inj h]
   exact hT _ _ _ _ hr
  ·exact enter_ev (callT_below hT n) h

theorem loopN_mono {b b' : Frame → Heap → Option Out} (hb : ∀ fr H out, b fr H = some out → b' fr H = some out) : ∀ {j j' : Nat} {fr : Frame} {H : Heap} {out : Out}, j ≤ j' → loopN b j fr H = some out → loopN b' j' fr H = some out
 | 0, j', fr, H, out, _, h => by simp [loopN] at h
 | j + 1, j', fr, H, out, hj, h => by
  obtain ⟨j', rfl⟩ : ∃ i, j' = i + 1 := ⟨j' - 1, by omega⟩
  simp only [loopN] at h ⊢
  split at h
  ·rename_i fr' H' hc
   rw [hb _ _ _ hc]
   exact loopN_mono hb (by omega) h
  ·rename_i hne
   rw [hb _ _ _ h]
   obtain ⟨ex, fr', H'⟩ := out
   cases ex with
   | normal => exact absurd h (hne _ _)
   | exit id => rfl
   | ret => rfl

theorem exec_mono {T : Cf} {f m k k' : Nat} (hk : k ≤ k') : (c : Code) → ∀ (fr : Frame) (H : Heap) (out : Out), exec C T f m k c fr H = some out → exec C T f m k' c fr H = some out
 | .skip, fr, H, out, h => h
 | .region id ops draw, fr, H, out, h => h
 | .seq a b, fr, H, out, h => by
  simp only [exec] at h ⊢
  split at h
  ·rename_i fr' H' ha
   rw [exec_mono hk a _ _ _ ha]
   exact exec_mono hk b _ _ _ h
  ·rename_i hne
   rw [exec_mono hk a _ _ _ h]
   obtain ⟨ex, fr', H'⟩ := out
   cases ex with
   | normal => exact absurd h (hne _ _)
   | exit id => rfl
   | ret => rfl
 | .cond c a b, fr, H, out, h => by
  simp only [exec] at h ⊢
  split at h
  ·rename_i d hd
   cases d with
   | true => exact exec_mono hk a _ _ _ h
   | false => exact exec_mono hk b _ _ _ h
  ·cases h
 | .block id c, fr, H, out, h => by
  simp only [exec] at h ⊢
  split at h
  ·rename_i id' fr' H' hc
   rw [exec_mono hk c _ _ _ hc]
   exact h
  ·rename_i hne
   rw [exec_mono hk c _ _ _ h]
   obtain ⟨ex, fr', H'⟩ := out
   cases ex with
   | normal => rfl
   | exit id => exact absurd h (hne _ _ _)
   | ret => rfl
 | .loop c, fr, H, out, h => by
  simp only [exec] at h ⊢
  exact loopN_mono (exec_mono hk c) hk h
 | .exit id, fr, H, out, h => h
 | .ret, fr, H, out, h => h
 | .scope .., fr, H, out, h => by simp [exec] at h
 | .label .., fr, H, out, h => by simp [exec] at h
 | .goto .., fr, H, out, h => by simp [exec] at h
 | .refuse .., fr, H, out, h => by simp [exec] at h
 | .rangeFunc .., fr, H, out, h => by simp [exec] at h

/-- code that tells out, with some fuel -/
def Run (C : Ctx) (T : Cf) (f m : Nat) (c : Code) (fr : Frame) (H : Heap) (out : Out) : Prop := ∃ k, exec C T f m k c fr H = some out

variable {T : Cf} {f m : Nat} {fr fr' : Frame} {H H' : Heap} {out : Out}

theorem Run.seq {a b : Code} (h : Run C T f m a fr H ⟨.normal, fr', H'⟩) (h' : Run C T f m b fr' H' out) : Run C T f m (.seq a b) fr H out := by
 obtain ⟨k0, h0⟩ := h
 obtain ⟨k1, h1⟩ := h'
 refine ⟨max k0 k1, ?_⟩
 simp only [exec]
 rw [exec_mono (Nat.le_max_left k0 k1) a _ _ _ h0]
 exact exec_mono (Nat.le_max_right k0 k1) b _ _ _ h1

theorem Run.seq_out {a b : Code} (h : Run C T f m a fr H out) (hne : out.ex ≠ .normal) : Run C T f m (.seq a b) fr H out := by
 obtain ⟨k0, h0⟩ := h
 refine ⟨k0, ?_⟩
 simp only [exec]
 rw [h0]
 obtain ⟨ex, fr', H'⟩ := out
 cases ex with
 | normal => exact absurd rfl hne
 | exit id => rfl
 | ret => rfl

theorem Run.cond {c : Operand} {a b : Code} {d : Bool} (hc : evalO C fr c = .bool d) (h : Run C T f m (if d then a else b) fr H out) : Run C T f m (.cond c a b) fr H out := by
 obtain ⟨k0, h0⟩ := h
 refine ⟨k0, ?_⟩
 simp only [exec]
 rw [hc]
 cases d <;> exact h0

/-- a block left by its own exit -/
theorem Run.block_exit {id : Nat} {c : Code} (h : Run C T f m c fr H ⟨.exit id, fr', H'⟩) : Run C T f m (.block id c) fr H ⟨.normal, fr', H'⟩ := by
 obtain ⟨k0, h0⟩ := h
 refine ⟨k0, ?_⟩
 simp only [exec]
 rw [h0]
 simp

/-- a block left otherwise -/
theorem Run.block {id : Nat} {c : Code} (h : Run C T f m c fr H out) (hne : out.ex ≠ .exit id) : Run C T f m (.block id c) fr H out := by
 obtain ⟨k0, h0⟩ := h
 refine ⟨k0, ?_⟩
 simp only [exec]
 rw [h0]
 obtain ⟨ex, fr', H'⟩ := out
 cases ex with
 | normal => rfl
 | exit id' =>
  have : id' ≠ id := fun e => hne (by rw [e])
  simp [this]
 | ret => rfl

theorem Run.loop_step {c : Code} (h : Run C T f m c fr H ⟨.normal, fr', H'⟩) (h' : Run C T f m (.loop c) fr' H' out) : Run C T f m (.loop c) fr H out := by
 obtain ⟨k0, h0⟩ := h
 obtain ⟨k1, h1⟩ := h'
 refine ⟨max k0 k1 + 1, ?_⟩
 simp only [exec] at h1 ⊢
 rw [loopN, exec_mono (show k0 ≤ max k0 k1 + 1 by omega) c _ _ _ h0]
 exact loopN_mono (exec_mono (show k1 ≤ max k0 k1 + 1 by omega) c) (by omega) h1

theorem Run.loop_out {c : Code} (h : Run C T f m c fr H out) (hne : out.ex ≠ .normal) : Run C T f m (.loop c) fr H out := by
 obtain ⟨k0, h0⟩ := h
 refine ⟨k0 + 1, ?_⟩
 simp only [exec]
 rw [loopN, exec_mono (show k0 ≤ k0 + 1 by omega) c _ _ _ h0]
 obtain ⟨ex, fr', H'⟩ := out
 cases ex with
 | normal => exact absurd rfl hne
 | exit id => rfl
 | ret => rfl

/-- a loop by its states -/
theorem Run.loop_rule {c : Code} {σ : Type} (I : σ → Prop) (fr : σ → Frame) (H : σ → Heap) (out : σ → Out) (μ : σ → Nat)
  (step : ∀ s, I s → (∃ s', I s' ∧ Run C T f m c (fr s) (H s) ⟨.normal, fr s', H s'⟩ ∧ out s' = out s ∧ μ s' < μ s) ∨ (Run C T f m c (fr s) (H s) (out s) ∧ (out s).ex ≠ .normal)) (s : σ) (hs : I s) :
  Run C T f m (.loop c) (fr s) (H s) (out s) := by
 generalize hn : μ s = n
 induction n using Nat.strongRecOn generalizing s with
 | _ n ih =>
  rcases step s hs with ⟨s', h0, h1, h2, h3⟩ | ⟨h1, h2⟩
  ·rw [← h2]
   exact Run.loop_step h1 (ih (μ s') (by omega) s' h0 rfl)
  ·exact Run.loop_out h1 h2

/-- a call, its body told -/
theorem Ev1.of {T : Cf} (hT : Below C T) {f : Nat} {args : List AV} {H : Heap} {r : AV × Heap} {fn : Func} {c : Code} {as : List AV} {lents : List Lent} {out : Out} {l : List AV}
  (hF : C.P.funcs[f]? = some fn) (hb : fn.body = some c) (hl : lendArgs C f H 0 args = some (as, lents))
  (hc : ((lents.all fun x => disjoint x.objs (reach H reachFuel (idsL as) [])) && decide (as.length + 1 < gtag)) = true)
  (he : Run C T f ((reach H reachFuel (idsL as) []).length) c (numbered 0 (coerce C (renL (intoN H (reach H reachFuel (idsL as) [])) (fun t => t) as) (paramsOf C f)))
   ((reach H reachFuel (idsL as) []).map fun o => (obAt H o).map (renObj (intoN H (reach H reachFuel (idsL as) [])) (fun _ => as.length + 1) 0)) out)
  (hex : out.ex = .normal ∨ out.ex = .ret) (hr : resultsV C out.fr out.H fn.results.toList = some l)
  (hw : wrap H (reach H reachFuel (idsL as) []) (lents ++ [⟨[], tagsObjs ((reach H reachFuel (idsL as) []).map (obAt H))⟩]) (resultV l) out.H = some r) : Ev1 C f args H r := by
 obtain ⟨k, hk⟩ := he
 refine enter_ev hT (k := k) ?_
 unfold enterV
 rw [hl]
 simp only
 rw [if_pos hc]
 have : runBody C T k f (coerce C (renL (intoN H (reach H reachFuel (idsL as) [])) (fun t => t) as) (paramsOf C f))
   ((reach H reachFuel (idsL as) []).map fun o => (obAt H o).map (renObj (intoN H (reach H reachFuel (idsL as) [])) (fun _ => as.length + 1) 0)) = some (resultV l, out.H) := by
  unfold runBody
  rw [hF]
  simp only
  rw [hb]
  simp only [List.length_map]
  rw [hk]
  obtain ⟨ex, fr', H'⟩ := out
  simp only at hex hr ⊢
  rcases hex with rfl | rfl <;> simp [hr]
 rw [this]
 exact hw

theorem lend1_free {H : Heap} {t : Nat} {a : AV} (hi : ids a = []) : lend1 H t a = lend1 [] t a ∧ ∀ r, lend1 H t a = some r → r.2.objs = [] ∧ ids r.1 = [] := by
 cases a
 case sl o off len g => simp [ids] at hi
 case ro c p t' =>
  refine ⟨rfl, fun r h => ?_⟩
  simp only [lend1, Option.some.injEq] at h
  subst h
  exact ⟨rfl, rfl⟩
 case rptr p i f t' =>
  refine ⟨rfl, fun r h => ?_⟩
  simp only [lend1, Option.some.injEq] at h
  subst h
  exact ⟨rfl, rfl⟩
 all_goals
  refine ⟨rfl, fun r h => ?_⟩
  simp only [lend1] at h
  split at h
  ·simp only [Option.some.injEq] at h
   subst h
   exact ⟨rfl, hi⟩
  ·cases h

theorem lendL_free {H : Heap} {t : Nat} : ∀ {l : List AV}, idsL l = [] → lendL H t l = lendL [] t l ∧ ∀ r, lendL H t l = some r → r.2.objs = [] ∧ idsL r.1 = []
 | [], _ => ⟨rfl, fun r h => by simp only [lendL, Option.some.injEq] at h; subst h; exact ⟨rfl, rfl⟩⟩
 | a :: l, hi => by
  simp only [idsL, List.append_eq_nil_iff] at hi
  obtain ⟨h1, h2⟩ := lend1_free (H := H) (t := t) hi.1
  obtain ⟨h3, h4⟩ := lendL_free (H := H) (t := t) hi.2
  refine ⟨by simp only [lendL, h1, h3], fun r h => ?_⟩
  simp only [lendL] at h
  split at h
  ·rename_i a' x r' y e1 e2
   simp only [Option.some.injEq] at h
   subst h
   obtain ⟨q1, q2⟩ := h2 _ e1
   obtain ⟨q3, q4⟩ := h4 _ e2
   exact ⟨by simp only at q1 q3 ⊢; rw [q1, q3]; rfl, by simp only [idsL] at q2 q4 ⊢; rw [q2, q4]; rfl⟩
  ·cases h

theorem lendV_free {H : Heap} {t : Nat} {a : AV} (hi : ids a = []) : lendV H t a = lendV [] t a ∧ ∀ r, lendV H t a = some r → r.2.objs = [] ∧ ids r.1 = [] := by
 unfold lendV
 split
 ·rename_i l
  obtain ⟨h1, h2⟩ := lendL_free (H := H) (t := t) (l := l) (by simpa [ids] using hi)
  refine ⟨by rw [h1], fun r h => ?_⟩
  cases hl : lendL H t l with
  | none => rw [hl] at h; cases h
  | some z =>
   rw [hl] at h
   simp only [Option.map_some, Option.some.injEq] at h
   subst h
   obtain ⟨q1, q2⟩ := h2 _ hl
   exact ⟨q1, by simpa [ids] using q2⟩
 ·rename_i f l
  obtain ⟨h1, h2⟩ := lendL_free (H := H) (t := t) (l := l) (by simpa [ids] using hi)
  refine ⟨by rw [h1], fun r h => ?_⟩
  cases hl : lendL H t l with
  | none => rw [hl] at h; cases h
  | some z =>
   rw [hl] at h
   simp only [Option.map_some, Option.some.injEq] at h
   subst h
   obtain ⟨q1, q2⟩ := h2 _ hl
   exact ⟨q1, by simpa [ids] using q2⟩
 ·exact lend1_free hi

theorem lendArgs_free {f : Nat} {H : Heap} : ∀ {args : List AV} {i : Nat}, idsL args = [] → lendArgs C f H i args = lendArgs C f [] i args ∧ ∀ r, lendArgs C f H i args = some r → (∀ x ∈ r.2, x.objs = []) ∧ idsL r.1 = []
 | [], i, _ => ⟨rfl, fun r h => by simp only [lendArgs, Option.some.injEq] at h; subst h; simp [idsL]⟩
 | a :: l, i, hi => by
  simp only [idsL, List.append_eq_nil_iff] at hi
  obtain ⟨h1, h2⟩ := lendV_free (H := H) (t := i + 1) hi.1
  obtain ⟨h3, h4⟩ := lendArgs_free (f := f) (H := H) (i := i + 1) hi.2
  have e : ∀ H : Heap, lendArgs C f H i (a :: l) = match lendV H (i + 1) a, lendArgs C f H (i + 1) l with
    | some (a', x), some (r', y) => some (a' :: r', x :: y)
    | _, _ => none := by
   intro H
   clear h1 h2 h3 h4
   cases a
   case sl o off len g => simp [ids] at hi
   all_goals
    simp only [lendArgs]
    generalize lendV H (i + 1) _ = x
    generalize lendArgs C f H (i + 1) l = y
    cases C.rw f i <;> rcases x with _ | ⟨_, _⟩ <;> rcases y with _ | ⟨_, _⟩ <;> rfl
  rw [e, e, h1, h3]
  refine ⟨rfl, fun r h => ?_⟩
  rw [← h1, ← h3] at h
  split at h
  ·rename_i a' x r' y e1 e2
   simp only [Option.some.injEq] at h
   subst h
   obtain ⟨q1, q2⟩ := h2 _ e1
   obtain ⟨q3, q4⟩ := h4 _ e2
   refine ⟨fun z hz => ?_, by simp only [idsL] at q2 q4 ⊢; rw [q2, q4]; rfl⟩
   rcases List.mem_cons.1 hz with rfl | hz
   ·exact q1
   ·exact q3 z hz
  ·cases h

theorem reach_nil (H : Heap) (acc : List Nat) : ∀ n, reach H n [] acc = acc
 | 0 => rfl
 | _ + 1 => rfl

/-- names moved on by n -/
def shiftN (n : Nat) (o g : Nat) : Option (Nat × Nat) := some (o + n, g)
def shiftV (n : Nat) (v : AV) : AV := ren (shiftN n) (fun t => t) v
def shiftH (n : Nat) (N : Heap) : Heap := N.map fun x => x.map fun ob => renObj (shiftN n) (fun t => t) ob.g ob

mutual
theorem ren_shift {ρ ρ' : Nat → Nat → Option (Nat × Nat)} {τ : Nat → Nat} {n : Nat} (h : ∀ o g, ρ' o g = (ρ o g).map fun x => (x.1 + n, x.2)) : (v : AV) → ren ρ' τ v = shiftV n (ren ρ τ v)
 | .ptr o i f g => by
  simp only [ren, h]
  rcases ρ o g with _ | ⟨a, b⟩ <;> simp [shiftV, ren, shiftN]
 | .sl o off len g => by
  simp only [ren, h]
  rcases ρ o g with _ | ⟨a, b⟩ <;> simp [shiftV, ren, shiftN]
 | .map o g => by
  simp only [ren, h]
  rcases ρ o g with _ | ⟨a, b⟩ <;> simp [shiftV, ren, shiftN]
 | .ro c p t => by simp [ren, shiftV]
 | .rptr p i f t => by simp [ren, shiftV]
 | .agg p => by simp only [ren, shiftV, ren_shift h p]
 | .tup l => by simp only [ren, shiftV, renL_shift h l]
 | .fn f l => by simp only [ren, shiftV, renL_shift h l]
 | .pc l => by simp only [ren, shiftV, renL_shift h l]
 | .pr e l => by simp only [ren, shiftV, renL_shift h l]
 | .pm l => by simp only [ren, shiftV, renL_shift h l]
 | .top => by simp [ren, shiftV]
 | .bool _ => by simp [ren, shiftV]
 | .int _ _ => by simp [ren, shiftV]
 | .str _ => by simp [ren, shiftV]
 | .nilptr => by simp [ren, shiftV]
 | .nilfn => by simp [ren, shiftV]
 | .nilmap => by simp [ren, shiftV]
 | .pn => by simp [ren, shiftV]
 | .pb _ => by simp [ren, shiftV]
 | .pi _ _ => by simp [ren, shiftV]
theorem renL_shift {ρ ρ' : Nat → Nat → Option (Nat × Nat)} {τ : Nat → Nat} {n : Nat} (h : ∀ o g, ρ' o g = (ρ o g).map fun x => (x.1 + n, x.2)) : (l : List AV) → renL ρ' τ l = renL (shiftN n) (fun t => t) (renL ρ τ l)
 | [] => rfl
 | a :: r => by
  have h1 := ren_shift (τ := τ) h a
  simp only [shiftV] at h1
  simp only [renL, h1, renL_shift h r]
end

theorem idxOf_shift : ∀ (l : List Nat) (o i n : Nat), idxOf l o (i + n) = (idxOf l o i).map (· + n)
 | [], _, _, _ => rfl
 | a :: r, o, i, n => by
  simp only [idxOf]
  split
  ·rfl
  ·rw [show i + n + 1 = (i + 1) + n by omega, idxOf_shift r o (i + 1) n]

/-- a call that is handed no object does the same in any heap -/
theorem Ev1.frame {f : Nat} {args : List AV} {v : AV} {N : Heap} (h : Ev1 C f args [] (v, N)) (hi : idsL args = []) (H : Heap) : Ev1 C f args H (shiftV H.length v, H ++ shiftH H.length N) := by
 obtain ⟨n0, h0⟩ := h
 refine ⟨n0 + 1, fun n hn => ?_⟩
 obtain ⟨n, rfl⟩ : ∃ i, n = i + 1 := ⟨n - 1, by omega⟩
 have h1 := h0 (n + 1) (by omega)
 simp only [callF, enterV] at h1 ⊢
 obtain ⟨e1, e2⟩ := lendArgs_free (C := C) (f := f) (H := H) (i := 0) hi
 rw [e1]
 split at h1
 ·cases h1
 ·rename_i as lents hl
  obtain ⟨e3, e4⟩ := e2 _ (e1.trans hl)
  simp only at e3 e4 h1 ⊢
  rw [e4] at h1 ⊢
  simp only [reach_nil, List.map_nil, List.length_nil] at h1 ⊢
  have hren : ∀ (H H' : Heap) (l : List AV), renL (intoN H []) (fun t => t) l = renL (intoN H' []) (fun t => t) l := by
   intro H H' l
   have : intoN H [] = intoN H' [] := by
    funext o g
    unfold intoN
    split <;> split <;> simp [idxOf]
   rw [this]
  rw [hren H []]
  split at h1
  ·rename_i hc
   rw [if_pos hc]
   split at h1
   ·cases h1
   ·rename_i u H1 hb
    unfold wrap at h1 ⊢
    simp only [List.length_nil, List.range_zero, List.nil_append, List.map_nil, tagsObjs, List.append_nil] at h1 ⊢
    split at h1
    ·rename_i hu
     rw [if_pos hu]
     generalize (List.filter (fun o => decide (0 ≤ o)) (reach H1 reachFuel (ids u) [])) = new at h1 ⊢
     have hrho : ∀ o g, backN H [] new H1 o g = (backN [] [] new H1 o g).map fun x => (x.1 + H.length, x.2) := by
      intro o g
      unfold backN
      split
      ·have := idxOf_shift new o 0 H.length
       rw [Nat.zero_add] at this
       simp [this, Option.map_map, Function.comp_def]
      ·rfl
     have hgone : ∀ t, goneOf (lents ++ [⟨[], []⟩]) t = [] := by
      intro t
      unfold goneOf
      split
      ·rfl
      ·split
       ·rename_i x hx
        rcases List.mem_append.1 (List.mem_of_getElem? hx) with hx | hx
        ·exact e3 x hx
        ·simp only [List.mem_singleton] at hx
         rw [hx]
       ·rfl
     have hfl : ∀ l : List Nat, l.flatMap (goneOf (lents ++ [⟨[], []⟩])) = [] := fun l => by simp [hgone]
     simp only [hfl, List.filter_nil] at h1 ⊢
     simp only [List.filter_nil, strike, putBack, List.nil_append, Option.some.injEq, Prod.mk.injEq] at h1 ⊢
     obtain ⟨h2, h3⟩ := h1
     refine ⟨by rw [← h2]; exact ren_shift hrho u, ?_⟩
     rw [← h3]
     congr 1
     simp only [shiftH, List.map_map]
     refine List.map_congr_left fun o _ => ?_
     simp only [Function.comp]
     cases obAt H1 o with
     | none => rfl
     | some ob =>
      simp only [Option.map_some, renObj, Option.some.injEq]
      have := ren_shift (τ := backT (lents ++ [⟨[], []⟩])) hrho ob.p
      simp only [shiftV] at this
      rw [this]
    ·cases h1
  ·cases h1

end

end Go.AM

/- Tables of calls that were run once. -/
namespace Go.AM

/-- a call and what it tells, in an empty heap -/
structure Row1 where
 f : Nat
 args : List AV
 res : AV
 N : Heap

def tabF (L : List Row1) : Cf := fun f args H =>
 match L.find? (fun e => e.f == f && eqL e.args args) with
 | some e => some (shiftV H.length e.res, H ++ shiftH H.length e.N)
 | none => none

def RowsOk (C : Ctx) (L : List Row1) : Prop := ∀ e ∈ L, Ev1 C e.f e.args [] (e.res, e.N) ∧ idsL e.args = []

theorem RowsOk.nil {C : Ctx} : RowsOk C [] := by intro e h; simp at h

/-- one call more, run over the table and the rest of the known ones -/
def rowRun (C : Ctx) (T : Cf) (n : Nat) (e : Row1) : Bool :=
 (idsL e.args).isEmpty && (match enterV C (runBody C (callT C T n) n) e.f e.args [] with
  | some (v, N) => eqAV v e.res && eqH N e.N
  | none => false)

theorem RowsOk.cons {C : Ctx} {T : Cf} (hT : Below C T) {L : List Row1} (hL : RowsOk C L) {n : Nat} {e : Row1} (h : rowRun C T n e = true) : RowsOk C (e :: L) := by
 intro x hx
 rcases List.mem_cons.1 hx with rfl | hx
 ·unfold rowRun at h
  simp only [Bool.and_eq_true, List.isEmpty_iff] at h
  refine ⟨?_, h.1⟩
  have h2 := h.2
  split at h2
  ·rename_i v N hv
   simp only [Bool.and_eq_true] at h2
   rw [← eqAV_eq _ _ h2.1, ← eqH_eq h2.2]
   exact enter_ev (callT_below hT n) hv
  ·cases h2
 ·exact hL x hx

/-- either table -/
def orT (T T' : Cf) : Cf := fun f args H => match T f args H with
 | some r => some r
 | none => T' f args H

end Go.AM

/- Calls on plain arguments: slices that are only read, numbers, bools, strings; what they tell is plain, or a new slice. -/
namespace Go.AM

/-- what a slice that is lent reads as -/
def payOf (H : Heap) : AV → Option AV
 | .ro _ p _ => some p
 | .sl o off len g => match live H o g with
  | some ob => if ob.ids then none else psub ob.p off len
  | none => none
 | _ => none

theorem lend_pay {H : Heap} {t : Nat} {a p : AV} (h : payOf H a = some p) : ∃ c x, lendV H t a = some (.ro c p t, x) := by
 cases a <;> simp only [payOf, reduceCtorEq] at h
 case ro c q t' =>
  simp only [Option.some.injEq] at h
  subst h
  exact ⟨c, _, rfl⟩
 case sl o off len g =>
  split at h
  ·rename_i ob hl
   split at h
   ·cases h
   ·rename_i hi
    exact ⟨if ob.z = 0 ∧ plen ob.p = 0 then 0 else 2, ⟨[o], [ob.tg]⟩, by simp [lendV, lend1, hl, hi, h]⟩
  ·cases h

/-- a value that nothing leads out of -/
def flatV : AV → Bool
 | .bool _ | .int _ _ | .str _ | .nilptr | .nilfn | .nilmap => true
 | .agg (.pb _) | .agg (.pi _ _) => true
 | _ => false

theorem flat_lend {H : Heap} {t : Nat} {a : AV} (h : flatV a = true) : lendV H t a = some (a, ⟨[], []⟩) := by
 cases a <;> simp only [flatV, Bool.false_eq_true] at h <;> try rfl
 case agg p => cases p <;> simp only [flatV, Bool.false_eq_true] at h <;> rfl

theorem flat_ids {a : AV} (h : flatV a = true) : ids a = [] ∧ tags a = [] := by
 cases a <;> simp only [flatV, Bool.false_eq_true] at h <;> try exact ⟨rfl, rfl⟩
 case agg p => cases p <;> simp only [flatV, Bool.false_eq_true] at h <;> exact ⟨rfl, rfl⟩

/-- the address of a field that lies off cells behind -/
def faV (H : Heap) (x : AV) (off : Nat) : Option AV :=
 match x with
 | .ptr o i f g => match live H o g with | some ob => some (shiftBy ob.p o i f g off) | none => none
 | .rptr p i f t => some (shiftRo p i f t off)
 | _ => none

def fvV (C : Ctx) (x : AV) (off ty : Nat) : Option AV :=
 match x with
 | .agg (.pc l) =>
  if isAggT C ty then
   if ((l.drop off).take (sizeT C ty)).length = sizeT C ty then (mkAgg C ty ((l.drop off).take (sizeT C ty))).map .agg else none
  else if okT C ty then l[off]? else none
 | _ => none

theorem fieldAddr_of {C : Ctx} {s : TypeId} {n off : Nat} {ty : TypeId} (h : ((fieldsOf C s)[n]?).map (fun fd => (fd.offset, fd.type)) = some (off, ty)) (hs : (sizeT C ty == 0) = false) (H : Heap) (x : AV) :
  fieldAddrV C H s x n = faV H x off := by
 cases hf : (fieldsOf C s)[n]? with
 | none => rw [hf] at h; cases h
 | some fd =>
  rw [hf] at h
  simp only [Option.map_some, Option.some.injEq, Prod.mk.injEq] at h
  obtain ⟨rfl, rfl⟩ := h
  have : ¬ sizeT C fd.type = 0 := by simpa using hs
  unfold fieldAddrV faV
  rw [hf]
  simp only [if_neg this]
  cases x <;> rfl

theorem field_of {C : Ctx} {s : TypeId} {n off : Nat} {ty : TypeId} (h : ((fieldsOf C s)[n]?).map (fun fd => (fd.offset, fd.type)) = some (off, ty)) (x : AV) :
  fieldV C s x n = fvV C x off ty := by
 cases hf : (fieldsOf C s)[n]? with
 | none => rw [hf] at h; cases h
 | some fd =>
  rw [hf] at h
  simp only [Option.map_some, Option.some.injEq, Prod.mk.injEq] at h
  obtain ⟨rfl, rfl⟩ := h
  unfold fieldV fvV
  rw [hf]
  cases x <;> try rfl
  case agg p => cases p <;> rfl

section
variable {C : Ctx} {f : Nat} {H : Heap}

theorem args_nil (i : Nat) : lendArgs C f H i [] = some ([], []) := rfl

theorem args_pay {i : Nat} {a p : AV} {r as : List AV} {xs : List Lent} (hrw : C.rw f i = false) (h : payOf H a = some p) (hr : lendArgs C f H (i + 1) r = some (as, xs)) :
  ∃ c x, lendArgs C f H i (a :: r) = some (.ro c p (i + 1) :: as, x :: xs) := by
 obtain ⟨c, x, hx⟩ := lend_pay (t := i + 1) h
 exact ⟨c, x, by simp only [lendArgs, hrw, hx, hr]⟩

theorem args_flat {i : Nat} {a : AV} {r as : List AV} {xs : List Lent} (hrw : C.rw f i = false) (h : flatV a = true) (hr : lendArgs C f H (i + 1) r = some (as, xs)) :
  lendArgs C f H i (a :: r) = some (a :: as, ⟨[], []⟩ :: xs) := by
 simp only [lendArgs, hrw, flat_lend h, hr]

theorem reach_none (H : Heap) : reach H reachFuel [] [] = [] := reach_nil H [] reachFuel

mutual
theorem ren_flat {ρ : Nat → Nat → Option (Nat × Nat)} {τ : Nat → Nat} : (v : AV) → ids v = [] → (∀ t ∈ tags v, τ t = t) → ren ρ τ v = v
 | .ptr .., h, _ => by simp [ids] at h
 | .sl .., h, _ => by simp [ids] at h
 | .map .., h, _ => by simp [ids] at h
 | .ro c p t, _, ht => by simp only [ren, ht t (by simp [tags])]
 | .rptr p i f t, _, ht => by simp only [ren, ht t (by simp [tags])]
 | .agg p, h, ht => by simp only [ids] at h; simp only [tags] at ht; simp only [ren, ren_flat p h ht]
 | .tup l, h, ht => by simp only [ids] at h; simp only [tags] at ht; simp only [ren, renL_flat l h ht]
 | .fn f l, h, ht => by simp only [ids] at h; simp only [tags] at ht; simp only [ren, renL_flat l h ht]
 | .pc l, h, ht => by simp only [ids] at h; simp only [tags] at ht; simp only [ren, renL_flat l h ht]
 | .pr e l, h, ht => by simp only [ids] at h; simp only [tags] at ht; simp only [ren, renL_flat l h ht]
 | .pm l, h, ht => by simp only [ids] at h; simp only [tags] at ht; simp only [ren, renL_flat l h ht]
 | .top, _, _ => rfl
 | .bool _, _, _ => rfl
 | .int _ _, _, _ => rfl
 | .str _, _, _ => rfl
 | .nilptr, _, _ => rfl
 | .nilfn, _, _ => rfl
 | .nilmap, _, _ => rfl
 | .pn, _, _ => rfl
 | .pb _, _, _ => rfl
 | .pi _ _, _, _ => rfl
theorem renL_flat {ρ : Nat → Nat → Option (Nat × Nat)} {τ : Nat → Nat} : (l : List AV) → idsL l = [] → (∀ t ∈ tagsL l, τ t = t) → renL ρ τ l = l
 | [], _, _ => rfl
 | a :: r, h, ht => by
  simp only [idsL, List.append_eq_nil_iff] at h
  simp only [tagsL, List.mem_append] at ht
  simp only [renL, ren_flat a h.1 (fun t h' => ht t (.inl h')), renL_flat r h.2 (fun t h' => ht t (.inr h'))]
end

mutual
theorem ren_same {ρ ρ' : Nat → Nat → Option (Nat × Nat)} {τ τ' : Nat → Nat} : (v : AV) → (∀ o g, o ∈ ids v → ρ o g = ρ' o g) → (∀ t ∈ tags v, τ t = τ' t) → ren ρ τ v = ren ρ' τ' v
 | .ptr o i f g, h, _ => by simp only [ren, h o g (by simp [ids])]
 | .sl o a b g, h, _ => by simp only [ren, h o g (by simp [ids])]
 | .map o g, h, _ => by simp only [ren, h o g (by simp [ids])]
 | .ro c p t, _, ht => by simp only [ren, ht t (by simp [tags])]
 | .rptr p i f t, _, ht => by simp only [ren, ht t (by simp [tags])]
 | .agg p, h, ht => by simp only [ids] at h; simp only [tags] at ht; simp only [ren, ren_same p h ht]
 | .tup l, h, ht => by simp only [ids] at h; simp only [tags] at ht; simp only [ren, renL_same l h ht]
 | .fn f l, h, ht => by simp only [ids] at h; simp only [tags] at ht; simp only [ren, renL_same l h ht]
 | .pc l, h, ht => by simp only [ids] at h; simp only [tags] at ht; simp only [ren, renL_same l h ht]
 | .pr e l, h, ht => by simp only [ids] at h; simp only [tags] at ht; simp only [ren, renL_same l h ht]
 | .pm l, h, ht => by simp only [ids] at h; simp only [tags] at ht; simp only [ren, renL_same l h ht]
 | .top, _, _ => rfl
 | .bool _, _, _ => rfl
 | .int _ _, _, _ => rfl
 | .str _, _, _ => rfl
 | .nilptr, _, _ => rfl
 | .nilfn, _, _ => rfl
 | .nilmap, _, _ => rfl
 | .pn, _, _ => rfl
 | .pb _, _, _ => rfl
 | .pi _ _, _, _ => rfl
theorem renL_same {ρ ρ' : Nat → Nat → Option (Nat × Nat)} {τ τ' : Nat → Nat} : (l : List AV) → (∀ o g, o ∈ idsL l → ρ o g = ρ' o g) → (∀ t ∈ tagsL l, τ t = τ' t) → renL ρ τ l = renL ρ' τ' l
 | [], _, _ => rfl
 | a :: r, h, ht => by
  simp only [idsL, List.mem_append] at h
  simp only [tagsL, List.mem_append] at ht
  simp only [renL, ren_same a (fun o g h' => h o g (.inl h')) (fun t h' => ht t (.inl h')), renL_same r (fun o g h' => h o g (.inr h')) (fun t h' => ht t (.inr h'))]
end

theorem disjoint_nil (l : List Nat) : disjoint l [] = true := disjoint_iff.2 fun _ _ h => by simp at h

/-- what comes back where nothing was handed over, and nothing is left -/
theorem wrap_plain {lents : List Lent} {v : AV} {H1 : Heap} (hi : ids v = []) (ht : tags v = []) : wrap H [] lents v H1 = some (v, H) := by
 unfold wrap
 simp only [List.length_nil, List.range_zero, List.nil_append, hi, reach_none, List.filter_nil, List.map_nil, ht, tagsObjs, List.append_nil, List.all_nil, if_true, List.flatMap_nil, strike, putBack]
 rw [ren_flat v hi (by simp [ht])]

/-- what comes back of a new slice of plain cells -/
def fresh (ob : Obj) : Obj := { ob with g := 0, tg := 0 }

def plainP : AV → Bool
 | .pb _ | .pi _ _ | .pn => true
 | _ => false

theorem plainP_ren {ρ : Nat → Nat → Option (Nat × Nat)} {τ : Nat → Nat} {p : AV} (h : plainP p = true) : ren ρ τ p = p := by
 cases p <;> simp [plainP] at h <;> rfl

theorem reach_one {H1 : Heap} {o : Nat} {ob : Obj} (ho : H1[o]? = some (some ob)) (hob : ob.ids = false) : reach H1 reachFuel [o] [] = [o] := by
 show reach H1 (99998 + 1 + 1) [o] [] = [o]
 simp [reach, ho, hob]

/-- the value with its one handle turned -/
theorem wrap_new {lents : List Lent} {v : AV} {H1 : Heap} {o g : Nat} {ob : Obj} (hi : ids v = [o]) (ht : tags v = []) (hl : live H1 o g = some ob) (hob : ob.ids = false) (hp : plainP ob.p = true) (htg : ob.tg = 0) :
  wrap H [] lents v H1 = some (ren (fun o' g' => if o' = o ∧ g' = g then some (H.length, 0) else none) (fun t => t) v, H ++ [some (fresh ob)]) := by
 obtain ⟨h1, h2⟩ := live_iff.1 hl
 unfold wrap
 have hat : obAt H1 o = some ob := by simp [obAt, h1]
 have htags : tagsOb ob = [0] := by
  unfold tagsOb
  rw [hob, htg]
  cases hq : ob.p <;> simp [hq, plainP] at hp <;> simp
 have hρ : ren (backN H [] [o] H1) (backT lents) v = ren (fun o' g' => if o' = o ∧ g' = g then some (H.length, 0) else none) (fun t => t) v := by
  have key : ∀ o' g', o' ∈ ids v → backN H [] [o] H1 o' g' = if o' = o ∧ g' = g then some (H.length, 0) else none := by
   intro o' g' hm
   rw [hi] at hm
   simp only [List.mem_singleton] at hm
   subst hm
   unfold backN
   by_cases hg : g' = g
   ·subst hg
    rw [hl]
    simp [idxOf]
   ·have : live H1 o' g' = none := by
     simp only [live, h1]
     rw [if_neg (fun e => hg (e.symm.trans h2))]
    rw [this]
    simp [hg]
  exact ren_same v (fun o' g' hm => key o' g' hm) (by simp [ht])
 simp only [List.length_nil, List.range_zero, List.nil_append, hi, reach_one h1 hob, ht, tagsObjs, List.append_nil, List.map_nil, hat, htags, List.map_cons, Nat.zero_le, decide_true, List.filter_cons_of_pos, List.filter_nil, strike, putBack]
 have h0 : backTag lents 0 = some 0 := rfl
 simp only [List.all_cons, List.all_nil, h0, Option.isSome_some, Bool.and_true, if_true, List.flatMap_cons, List.flatMap_nil, goneOf, List.append_nil, List.filter_nil, strike, Option.map_some, Option.some.injEq, Prod.mk.injEq]
 refine ⟨hρ, ?_⟩
 simp only [renObj, plainP_ren hp, fresh, htg]
 rfl

variable {T : Cf}

/-- a call that tells something plain -/
theorem Ev1.plain (hT : Below C T) {args : List AV} {fn : Func} {c : Code} {as : List AV} {lents : List Lent} {out : Out} {l : List AV}
  (hF : C.P.funcs[f]? = some fn) (hb : fn.body = some c) (hl : lendArgs C f H 0 args = some (as, lents)) (hi : idsL as = []) (hn : as.length + 1 < gtag)
  (he : Run C T f 0 c (numbered 0 (coerce C as (paramsOf C f))) [] out) (hex : out.ex = .normal ∨ out.ex = .ret) (hr : resultsV C out.fr out.H fn.results.toList = some l)
  (hv : ids (resultV l) = []) (ht : tags (resultV l) = []) : Ev1 C f args H (resultV l, H) := by
 refine Ev1.of hT hF hb hl ?_ ?_ hex hr ?_
 ·rw [hi, reach_none]
  simp only [Bool.and_eq_true, decide_eq_true_eq]
  exact ⟨List.all_eq_true.2 fun x _ => disjoint_nil x.objs, hn⟩
 ·rw [hi, reach_none, renL_flat as hi (fun _ _ => rfl)]
  exact he
 ·rw [hi, reach_none]
  exact wrap_plain hv ht

/-- a call that tells a new slice, alone or beside plain values -/
theorem Ev1.fresh (hT : Below C T) {args : List AV} {fn : Func} {c : Code} {as : List AV} {lents : List Lent} {out : Out} {l : List AV} {o g : Nat} {ob : Obj}
  (hF : C.P.funcs[f]? = some fn) (hb : fn.body = some c) (hl : lendArgs C f H 0 args = some (as, lents)) (hi : idsL as = []) (hn : as.length + 1 < gtag)
  (he : Run C T f 0 c (numbered 0 (coerce C as (paramsOf C f))) [] out) (hex : out.ex = .normal ∨ out.ex = .ret) (hr : resultsV C out.fr out.H fn.results.toList = some l)
  (hv : ids (resultV l) = [o]) (ht : tags (resultV l) = []) (ho : live out.H o g = some ob) (hob : ob.ids = false) (hp : plainP ob.p = true) (htg : ob.tg = 0) :
  Ev1 C f args H (ren (fun o' g' => if o' = o ∧ g' = g then some (H.length, 0) else none) (fun t => t) (resultV l), H ++ [some (AM.fresh ob)]) := by
 refine Ev1.of hT hF hb hl ?_ ?_ hex hr ?_
 ·rw [hi, reach_none]
  simp only [Bool.and_eq_true, decide_eq_true_eq]
  exact ⟨List.all_eq_true.2 fun x _ => disjoint_nil x.objs, hn⟩
 ·rw [hi, reach_none, renL_flat as hi (fun _ _ => rfl)]
  exact he
 ·rw [hi, reach_none]
  exact wrap_new hv ht ho hob hp htg

end

-- what a call tells of what is lent, whatever the form in which it is handed over

section
variable {C : Ctx} {f : Nat} {H : Heap}

theorem lend1_idem {t : Nat} {a a' : AV} {x : Lent} (h : lend1 H t a = some (a', x)) (hi : ids a' = []) :
  ∃ y : Lent, (∀ H2, lend1 H2 t a' = some (a', y)) ∧ (∀ s ∈ y.tags, s = t) ∧ y.objs = [] ∧ (y.tags = [] → x.tags = [] ∧ x.objs = []) := by
 cases a
 case sl o off len g =>
  simp only [lend1] at h
  split at h
  ·rename_i ob hl
   split at h
   ·cases h
   ·simp only [Option.map_eq_some_iff, Prod.mk.injEq] at h
    obtain ⟨p, _, rfl, rfl⟩ := h
    exact ⟨⟨[], [t]⟩, fun _ => rfl, by simp, rfl, by simp⟩
  ·cases h
 case ro c p t' =>
  simp only [lend1, Option.some.injEq, Prod.mk.injEq] at h
  obtain ⟨rfl, rfl⟩ := h
  exact ⟨⟨[], [t]⟩, fun _ => rfl, by simp, rfl, by simp⟩
 case rptr p i g t' =>
  simp only [lend1, Option.some.injEq, Prod.mk.injEq] at h
  obtain ⟨rfl, rfl⟩ := h
  exact ⟨⟨[], [t]⟩, fun _ => rfl, by simp, rfl, by simp⟩
 all_goals
  simp only [lend1] at h
  split at h
  ·rename_i ht
   simp only [Option.some.injEq, Prod.mk.injEq] at h
   obtain ⟨rfl, rfl⟩ := h
   exact ⟨⟨[], []⟩, fun _ => by simp only [lend1]; rw [if_pos ht], by simp, rfl, fun _ => ⟨rfl, rfl⟩⟩
  ·cases h

theorem lendL_idem {t : Nat} : ∀ {l l' : List AV} {x : Lent}, lendL H t l = some (l', x) → idsL l' = [] →
  ∃ y : Lent, (∀ H2, lendL H2 t l' = some (l', y)) ∧ (∀ s ∈ y.tags, s = t) ∧ y.objs = [] ∧ (y.tags = [] → x.tags = [] ∧ x.objs = [])
 | [], l', x, h, _ => by
  simp only [lendL, Option.some.injEq, Prod.mk.injEq] at h
  obtain ⟨rfl, rfl⟩ := h
  exact ⟨⟨[], []⟩, fun _ => rfl, by simp, rfl, fun _ => ⟨rfl, rfl⟩⟩
 | a :: l, l', x, h, hi => by
  simp only [lendL] at h
  split at h
  ·rename_i a' x1 r' x2 e1 e2
   simp only [Option.some.injEq, Prod.mk.injEq] at h
   obtain ⟨rfl, rfl⟩ := h
   simp only [idsL, List.append_eq_nil_iff] at hi
   obtain ⟨y1, q1, q2, q3, q4⟩ := lend1_idem e1 hi.1
   obtain ⟨y2, p1, p2, p3, p4⟩ := lendL_idem e2 hi.2
   refine ⟨⟨y1.objs ++ y2.objs, y1.tags ++ y2.tags⟩, fun H2 => by simp only [lendL, q1, p1], ?_, by simp [q3, p3], ?_⟩
   ·intro s hs
    rcases List.mem_append.1 hs with hs | hs
    ·exact q2 s hs
    ·exact p2 s hs
   ·intro hy
    simp only [List.append_eq_nil_iff] at hy
    obtain ⟨h1, h2⟩ := q4 hy.1
    obtain ⟨h3, h4⟩ := p4 hy.2
    simp [h1, h2, h3, h4]
  ·cases h

theorem lendV_idem {t : Nat} {a a' : AV} {x : Lent} (h : lendV H t a = some (a', x)) (hi : ids a' = []) :
  ∃ y : Lent, (∀ H2, lendV H2 t a' = some (a', y)) ∧ (∀ s ∈ y.tags, s = t) ∧ y.objs = [] ∧ (y.tags = [] → x.tags = [] ∧ x.objs = []) := by
 unfold lendV at h
 split at h
 ·rename_i l
  cases hl : lendL H t l with
  | none => rw [hl] at h; cases h
  | some z =>
   obtain ⟨l', x'⟩ := z
   rw [hl] at h
   simp only [Option.map_some, Option.some.injEq, Prod.mk.injEq] at h
   obtain ⟨rfl, rfl⟩ := h
   obtain ⟨y, q1, q2⟩ := lendL_idem hl (by simpa [ids] using hi)
   exact ⟨y, fun H2 => by simp only [lendV, q1 H2, Option.map_some], q2⟩
 ·rename_i g l
  cases hl : lendL H t l with
  | none => rw [hl] at h; cases h
  | some z =>
   obtain ⟨l', x'⟩ := z
   rw [hl] at h
   simp only [Option.map_some, Option.some.injEq, Prod.mk.injEq] at h
   obtain ⟨rfl, rfl⟩ := h
   obtain ⟨y, q1, q2⟩ := lendL_idem hl (by simpa [ids] using hi)
   exact ⟨y, fun H2 => by simp only [lendV, q1 H2, Option.map_some], q2⟩
 ·rename_i n1 n2
  obtain ⟨y, q1, q2⟩ := lend1_idem h hi
  refine ⟨y, fun H2 => ?_, q2⟩
  unfold lendV
  split
  ·rename_i l
   exfalso
   cases a <;> simp only [lend1] at h <;> first | (split at h <;> first | (simp only [Option.some.injEq, Prod.mk.injEq] at h; cases h.1; exact n1 _ rfl) | cases h | skip) | skip
   all_goals simp_all
  ·rename_i g l
   exfalso
   cases a <;> simp only [lend1] at h <;> first | (split at h <;> first | (simp only [Option.some.injEq, Prod.mk.injEq] at h; cases h.1; exact n2 _ _ rfl) | cases h | skip) | skip
   all_goals simp_all
  ·exact q1 H2

theorem lendArgs_idem : ∀ {args as : List AV} {i : Nat} {xs : List Lent}, lendArgs C f H i args = some (as, xs) → idsL as = [] →
  ∃ ys : List Lent, (∀ H2, lendArgs C f H2 i as = some (as, ys)) ∧ ys.length = xs.length ∧
   ∀ k y, ys[k]? = some y → ∃ x, xs[k]? = some x ∧ (∀ s ∈ y.tags, s = i + k + 1) ∧ y.objs = [] ∧ (y.tags = [] → x.tags = [] ∧ x.objs = [])
 | [], as, i, xs, h, _ => by
  simp only [lendArgs, Option.some.injEq, Prod.mk.injEq] at h
  obtain ⟨rfl, rfl⟩ := h
  exact ⟨[], fun _ => rfl, rfl, fun k y h => by simp at h⟩
 | a :: l, as, i, xs, h, hi => by
  have e : ∀ (H : Heap) (a : AV) (l : List AV), ids a = [] → lendArgs C f H i (a :: l) = match lendV H (i + 1) a, lendArgs C f H (i + 1) l with
    | some (a', x), some (r', y) => some (a' :: r', x :: y)
    | _, _ => none := by
   intro H a l ha
   cases a
   case sl o off len g => simp [ids] at ha
   all_goals
    simp only [lendArgs]
    generalize lendV H (i + 1) _ = x
    generalize lendArgs C f H (i + 1) l = y
    cases C.rw f i <;> rcases x with _ | ⟨_, _⟩ <;> rcases y with _ | ⟨_, _⟩ <;> rfl
  simp only [lendArgs] at h
  split at h
  ·rename_i a' x1 r' x2 e1 e2
   simp only [Option.some.injEq, Prod.mk.injEq] at h
   obtain ⟨rfl, rfl⟩ := h
   simp only [idsL, List.append_eq_nil_iff] at hi
   have e3 : lendV H (i + 1) a = some (a', x1) := by
    split at e1
    ·simp only [Option.some.injEq, Prod.mk.injEq] at e1
     obtain ⟨rfl, rfl⟩ := e1
     simp [ids] at hi
    ·exact e1
   obtain ⟨y1, q1, q2, q3, q4⟩ := lendV_idem e3 hi.1
   obtain ⟨ys, p1, p2, p3⟩ := lendArgs_idem e2 hi.2
   refine ⟨y1 :: ys, fun H2 => by rw [e H2 a' r' hi.1, q1, p1], by simp [p2], fun k y hy => ?_⟩
   cases k with
   | zero =>
    simp only [List.getElem?_cons_zero, Option.some.injEq] at hy
    subst hy
    exact ⟨x1, rfl, q2, q3, q4⟩
   | succ k =>
    obtain ⟨x, h1, h2, h3⟩ := p3 k y (by simpa using hy)
    exact ⟨x, by simpa using h1, fun s hs => by rw [h2 s hs]; omega, h3⟩
  ·cases h

mutual
theorem tags_ren' {ρ : Nat → Nat → Option (Nat × Nat)} {τ : Nat → Nat} : (v : AV) → tags (ren ρ τ v) = (tags v).map τ
 | .ptr o i f g => by simp only [ren]; rcases ρ o g with _ | ⟨_, _⟩ <;> rfl
 | .sl o a b g => by simp only [ren]; rcases ρ o g with _ | ⟨_, _⟩ <;> rfl
 | .map o g => by simp only [ren]; rcases ρ o g with _ | ⟨_, _⟩ <;> rfl
 | .ro c p t => rfl
 | .rptr p i f t => rfl
 | .agg p => by simp only [ren, tags, tags_ren' p]
 | .tup l => by simp only [ren, tags, tagsL_ren' l]
 | .fn f l => by simp only [ren, tags, tagsL_ren' l]
 | .pc l => by simp only [ren, tags, tagsL_ren' l]
 | .pr e l => by simp only [ren, tags, tagsL_ren' l]
 | .pm l => by simp only [ren, tags, tagsL_ren' l]
 | .top => rfl
 | .bool _ => rfl
 | .int _ _ => rfl
 | .str _ => rfl
 | .nilptr => rfl
 | .nilfn => rfl
 | .nilmap => rfl
 | .pn => rfl
 | .pb _ => rfl
 | .pi _ _ => rfl
theorem tagsL_ren' {ρ : Nat → Nat → Option (Nat × Nat)} {τ : Nat → Nat} : (l : List AV) → tagsL (renL ρ τ l) = (tagsL l).map τ
 | [] => rfl
 | a :: r => by simp only [renL, tagsL, List.map_append, tags_ren' a, tagsL_ren' r]
end

theorem tagsOb_ren {ρ : Nat → Nat → Option (Nat × Nat)} {τ : Nat → Nat} {g : Nat} (ob : Obj) : tagsOb (renObj ρ τ g ob) = (tagsOb ob).map τ := by
 unfold tagsOb renObj
 simp only
 split
 ·exact tags_ren' ob.p
 ·simp only [List.map_cons, List.cons.injEq, true_and]
  cases ob.p <;> simp only [ren, List.map_nil]
  case ptr o i f g => rcases ρ o g with _ | ⟨_, _⟩ <;> rfl
  case sl o a b g => rcases ρ o g with _ | ⟨_, _⟩ <;> rfl
  case map o g => rcases ρ o g with _ | ⟨_, _⟩ <;> rfl
  case pm l => exact tagsL_ren' l

theorem tagsObjs_ren {ρ : Nat → Nat → Option (Nat × Nat)} {τ : Nat → Nat} {g : Nat → Nat} : ∀ (l : List (Option Obj)), tagsObjs (l.map fun x => x.map fun ob => renObj ρ τ (g ob.g) ob) = (tagsObjs l).map τ
 | [] => rfl
 | none :: r => by simp only [List.map_cons, Option.map_none, tagsObjs, tagsObjs_ren r]
 | some ob :: r => by simp only [List.map_cons, Option.map_some, tagsObjs, List.map_append, tagsOb_ren, tagsObjs_ren r]

theorem joinTags_same {t : Nat} (ht : t ≠ 0) : ∀ {l : List Nat}, (∀ s ∈ l, s = t) → l ≠ [] → joinTags l = some t
 | [], _, h => absurd rfl h
 | a :: [], h, _ => by
  have := h a (by simp)
  subst this
  simp [joinTags, joinTag, ht]
 | a :: b :: r, h, _ => by
  have := h a (by simp)
  subst this
  have ih := joinTags_same ht (l := b :: r) (fun s hs => h s (by simp at hs ⊢; right; exact hs)) (by simp)
  rw [joinTags, ih]
  simp [joinTag, ht]

/-- nothing lent is in what is told -/
def cleanV (v : AV) : Bool := (tags v).all (· == 0)
def cleanH (N : Heap) : Bool := N.all fun | some ob => ob.tg == 0 && (tags ob.p).all (· == 0) | none => true

theorem cleanV_iff {v : AV} (h : cleanV v = true) : ∀ t ∈ tags v, t = 0 := fun t ht => by simpa using List.all_eq_true.1 h t ht
theorem cleanH_iff {N : Heap} (h : cleanH N = true) {ob : Obj} (ho : some ob ∈ N) : ob.tg = 0 ∧ ∀ t ∈ tags ob.p, t = 0 := by
 have := List.all_eq_true.1 h _ ho
 simp only [Bool.and_eq_true, beq_iff_eq, List.all_eq_true] at this
 exact this
theorem cleanOb {ob : Obj} (h : ob.tg = 0 ∧ ∀ t ∈ tags ob.p, t = 0) : ∀ t ∈ tagsOb ob, t = 0 := by
 intro t ht
 unfold tagsOb at ht
 split at ht
 ·exact h.2 t ht
 ·rcases List.mem_cons.1 ht with rfl | ht
  ·exact h.1
  ·cases hp : ob.p <;> rw [hp] at ht <;> simp only [List.not_mem_nil] at ht
   rw [hp] at h
   exact h.2 t ht
theorem cleanObjs : ∀ {N : Heap}, cleanH N = true → ∀ t ∈ tagsObjs N, t = 0
 | [], _, t, ht => by simp [tagsObjs] at ht
 | none :: r, h, t, ht => by
  refine cleanObjs (N := r) ?_ t (by simpa [tagsObjs] using ht)
  simpa [cleanH] using h
 | some ob :: r, h, t, ht => by
  simp only [tagsObjs, List.mem_append] at ht
  rcases ht with ht | ht
  ·exact cleanOb (cleanH_iff h (by simp)) t ht
  ·refine cleanObjs (N := r) ?_ t ht
   simp only [cleanH, List.all_cons, Bool.and_eq_true] at h
   exact h.2

/-- a call on what is lent, in an empty heap, of which nothing lent comes back: the same in any heap, in whatever form the arguments are handed over -/
theorem Ev1.lent {args as : List AV} {xs : List Lent} {v : AV} {N : Heap} (h : Ev1 C f as [] (v, N)) (hl : lendArgs C f H 0 args = some (as, xs)) (hi : idsL as = [])
  (hcv : cleanV v = true) (hcN : cleanH N = true) : Ev1 C f args H (shiftV H.length v, H ++ shiftH H.length N) := by
 have hv := cleanV_iff hcv
 have hN := cleanObjs hcN
 obtain ⟨ys, k1, k2, k3⟩ := lendArgs_idem hl hi
 obtain ⟨n0, h0⟩ := h
 have kz : ∀ t, backT (ys ++ [⟨[], []⟩]) t = 0 → backT (xs ++ [⟨[], []⟩]) t = 0 := by
  intro t hb0
  unfold backT backTag at hb0 ⊢
  split
  ·rfl
  ·rename_i ht0
   rw [if_neg ht0] at hb0
   by_cases hlt : t - 1 < ys.length
   ·rw [List.getElem?_append_left hlt, List.getElem?_eq_getElem hlt] at hb0
    simp only at hb0
    obtain ⟨x, q1, q2, q3, q4⟩ := k3 (t - 1) _ (List.getElem?_eq_getElem hlt)
    rw [List.getElem?_append_left (by omega), q1]
    simp only
    have hnil : (ys[t - 1]).tags = [] := by
     apply Classical.byContradiction
     intro hne
     have := joinTags_same (t := 0 + (t - 1) + 1) (by omega) q2 hne
     rw [this] at hb0
     simp at hb0
    rw [(q4 hnil).1]
    rfl
   ·by_cases hlt2 : t - 1 = ys.length
    ·have e : (xs ++ [(⟨[], []⟩ : Lent)])[t - 1]? = some ⟨[], []⟩ := by
      rw [List.getElem?_append_right (by omega), hlt2, k2]
      simp
     rw [e]
     rfl
    ·have e : (xs ++ [(⟨[], []⟩ : Lent)])[t - 1]? = none := by
      rw [List.getElem?_eq_none]
      simp
      omega
     rw [e]
     rfl
 refine ⟨n0 + 1, fun n hn => ?_⟩
 obtain ⟨n, rfl⟩ : ∃ i, n = i + 1 := ⟨n - 1, by omega⟩
 have h1 := h0 (n + 1) (by omega)
 simp only [callF, enterV] at h1 ⊢
 rw [k1 []] at h1
 rw [hl]
 simp only at h1 ⊢
 rw [hi] at h1 ⊢
 simp only [reach_nil, List.map_nil, List.length_nil] at h1 ⊢
 rw [renL_flat as hi (fun _ _ => rfl)] at h1 ⊢
 split at h1
 ·rename_i hc
  have hc' : ((xs.all fun x => disjoint x.objs []) && decide (as.length + 1 < gtag)) = true := by
   simp only [Bool.and_eq_true] at hc ⊢
   exact ⟨List.all_eq_true.2 fun x _ => disjoint_nil x.objs, hc.2⟩
  rw [if_pos hc']
  split at h1
  ·cases h1
  ·rename_i u H1 hb
   unfold wrap at h1 ⊢
   simp only [List.length_nil, List.range_zero, List.nil_append, List.map_nil, tagsObjs, List.append_nil] at h1 ⊢
   generalize hnew : (List.filter (fun o => decide (0 ≤ o)) (reach H1 reachFuel (ids u) [])) = new at h1 ⊢
   split at h1
   ·rename_i hu
    simp only [Option.some.injEq, Prod.mk.injEq] at h1
    obtain ⟨h2, h3⟩ := h1
    have hgone0 : ∀ t, goneOf (ys ++ [⟨[], []⟩]) t = [] := by
     intro t
     unfold goneOf
     split
     ·rfl
     ·split
      ·rename_i x hx
       rcases List.mem_append.1 (List.mem_of_getElem? hx) with hx | hx
       ·obtain ⟨k, hk⟩ := List.getElem?_of_mem hx
        obtain ⟨_, _, _, q, _⟩ := k3 k x hk
        exact q
       ·simp only [List.mem_singleton] at hx
        rw [hx]
      ·rfl
    have hfl0 : ∀ l : List Nat, l.flatMap (goneOf (ys ++ [⟨[], []⟩])) = [] := fun l => by simp [hgone0]
    simp only [hfl0, List.filter_nil] at h3
    simp only [List.filter_nil, strike, putBack, List.nil_append] at h3
    -- all tags used are none
    have hz : ∀ t ∈ tags u ++ tagsObjs (new.map (obAt H1)), backT (ys ++ [⟨[], []⟩]) t = 0 := by
     intro t ht
     rcases List.mem_append.1 ht with ht | ht
     ·refine hv _ ?_
      rw [← h2, tags_ren']
      exact List.mem_map.2 ⟨t, ht, rfl⟩
     ·refine hN _ ?_
      rw [← h3]
      have := tagsObjs_ren (ρ := backN [] [] new H1) (τ := backT (ys ++ [⟨[], []⟩])) (g := fun _ => 0) (new.map (obAt H1))
      rw [List.map_map] at this
      rw [show (fun o => Option.map (renObj (backN [] [] new H1) (backT (ys ++ [⟨[], []⟩])) 0) (obAt H1 o)) = ((fun x : Option Obj => x.map fun ob => renObj (backN [] [] new H1) (backT (ys ++ [⟨[], []⟩])) 0 ob) ∘ obAt H1) from rfl, this]
      exact List.mem_map.2 ⟨t, ht, rfl⟩
    have hk : ∀ t ∈ tags u ++ tagsObjs (new.map (obAt H1)), backTag (xs ++ [⟨[], []⟩]) t = some 0 ∧ goneOf (xs ++ [⟨[], []⟩]) t = [] := by
     intro t ht
     have hb0 := hz t ht
     have hs := List.all_eq_true.1 hu t ht
     by_cases ht0 : t = 0
     ·subst ht0
      exact ⟨rfl, rfl⟩
     ·unfold backT at hb0
      unfold backTag at hb0 hs ⊢
      unfold goneOf
      rw [if_neg ht0] at hb0 hs ⊢
      rw [if_neg ht0]
      by_cases hlt : t - 1 < ys.length
      ·rw [List.getElem?_append_left hlt, List.getElem?_eq_getElem hlt] at hb0 hs
       simp only at hb0 hs
       obtain ⟨x, q1, q2, q3, q4⟩ := k3 (t - 1) _ (List.getElem?_eq_getElem hlt)
       rw [List.getElem?_append_left (by omega), q1]
       simp only
       have hnil : (ys[t - 1]).tags = [] := by
        apply Classical.byContradiction
        intro hne
        have := joinTags_same (t := 0 + (t - 1) + 1) (by omega) q2 hne
        rw [this] at hb0
        simp at hb0
       obtain ⟨q5, q6⟩ := q4 hnil
       rw [q5, q6]
       exact ⟨rfl, rfl⟩
      ·by_cases hlt2 : t - 1 = ys.length
       ·have e : (xs ++ [(⟨[], []⟩ : Lent)])[t - 1]? = some ⟨[], []⟩ := by
         rw [List.getElem?_append_right (by omega), hlt2, k2]
         simp
        rw [e]
        exact ⟨rfl, rfl⟩
       ·have e : (ys ++ [(⟨[], []⟩ : Lent)])[t - 1]? = none := by
         rw [List.getElem?_eq_none]
         simp
         omega
        rw [e] at hs
        cases hs
    have hu' : ((tags u ++ tagsObjs (new.map (obAt H1))).all fun t => (backTag (xs ++ [⟨[], []⟩]) t).isSome) = true := List.all_eq_true.2 fun t ht => by rw [(hk t ht).1]; rfl
    rw [if_pos hu']
    have hfl : (tags u ++ tagsObjs (new.map (obAt H1))).flatMap (goneOf (xs ++ [⟨[], []⟩])) = [] := List.flatMap_eq_nil_iff.2 fun t ht => (hk t ht).2
    rw [hfl]
    simp only [List.filter_nil, strike, putBack, Option.some.injEq, Prod.mk.injEq]
    have hrho : ∀ o g, backN H [] new H1 o g = (backN [] [] new H1 o g).map fun x => (x.1 + H.length, x.2) := by
     intro o g
     unfold backN
     split
     ·have := idxOf_shift new o 0 H.length
      rw [Nat.zero_add] at this
      simp [this, Option.map_map, Function.comp_def]
     ·rfl
    have hτ : ∀ t ∈ tags u ++ tagsObjs (new.map (obAt H1)), backT (xs ++ [⟨[], []⟩]) t = backT (ys ++ [⟨[], []⟩]) t := fun t ht => by
     rw [hz t ht]
     unfold backT
     rw [(hk t ht).1]
     rfl
    refine ⟨?_, ?_⟩
    ·rw [← h2, ← ren_shift hrho u]
     exact ren_same u (fun _ _ _ => rfl) fun t ht => hτ t (List.mem_append_left _ ht)
    ·rw [← h3]
     congr 1
     simp only [shiftH, List.map_map]
     refine List.map_congr_left fun o ho => ?_
     simp only [Function.comp]
     cases hob : obAt H1 o with
     | none => rfl
     | some ob =>
      have hmem : some (renObj (backN [] [] new H1) (backT (ys ++ [⟨[], []⟩])) 0 ob) ∈ N := by
       rw [← h3]
       exact List.mem_map.2 ⟨o, ho, by rw [hob]; rfl⟩
      obtain ⟨c1, c2⟩ := cleanH_iff hcN hmem
      simp only [renObj] at c1 c2
      have e1 := ren_shift (τ := backT (ys ++ [⟨[], []⟩])) hrho ob.p
      simp only [shiftV] at e1
      have e2 : ren (backN H [] new H1) (backT (xs ++ [⟨[], []⟩])) ob.p = ren (backN H [] new H1) (backT (ys ++ [⟨[], []⟩])) ob.p := by
       refine ren_same ob.p (fun _ _ _ => rfl) fun t ht => ?_
       have : backT (ys ++ [⟨[], []⟩]) t = 0 := c2 _ (by rw [tags_ren']; exact List.mem_map.2 ⟨t, ht, rfl⟩)
       rw [this, kz t this]
      simp only [Option.map_some, renObj, Option.some.injEq]
      rw [← e1, e2, kz _ c1, c1]
   ·cases h1
 ·cases h1

/-- a table by what is lent -/
def lentT (C : Ctx) (S : Nat → List AV → Option (AV × Heap)) : Cf := fun f args H =>
 match lendArgs C f H 0 args with
 | some (as, _) => if (idsL as).isEmpty then match S f as with
   | some (v, N) => if (cleanV v && cleanH N) = true then some (shiftV H.length v, H ++ shiftH H.length N) else none
   | none => none
  else none
 | none => none

theorem lentT_below {S : Nat → List AV → Option (AV × Heap)} (hS : ∀ f as v N, S f as = some (v, N) → Ev1 C f as [] (v, N)) : Below C (lentT C S) := by
 intro f args H r h
 unfold lentT at h
 split at h
 ·rename_i as xs hl
  split at h
  ·rename_i hi
   split at h
   ·rename_i v N hs
    split at h
    ·rename_i hc
     simp only [Bool.and_eq_true] at hc
     rw [← Option.some.inj h]
     exact Ev1.lent (hS f as v N hs) hl (List.isEmpty_iff.1 hi) hc.1 hc.2
    ·cases h
   ·cases h
  ·cases h
 ·cases h

def rowS (L : List Row1) (f : Nat) (as : List AV) : Option (AV × Heap) := (L.find? fun e => e.f == f && eqL e.args as).map fun e => (e.res, e.N)

/-- rows by what is lent -/
def rowT (C : Ctx) (L : List Row1) : Cf := fun f args H => if (L.any fun e => e.f == f) then lentT C (rowS L) f args H else none

theorem rowT_below {L : List Row1} (h : RowsOk C L) : Below C (rowT C L) := by
 intro f args H r hr
 unfold rowT at hr
 split at hr
 ·refine lentT_below (fun f as v N hs => ?_) f args H r hr
  unfold rowS at hs
  obtain ⟨e, he, h1⟩ := Option.map_eq_some_iff.1 hs
  simp only [Prod.mk.injEq] at h1
  obtain ⟨rfl, rfl⟩ := h1
  have h3 := List.find?_some he
  simp only [Bool.and_eq_true, beq_iff_eq] at h3
  rw [← h3.1, ← eqL_eq _ _ h3.2]
  exact (h e (List.mem_of_find?_eq_some he)).1
 ·cases hr

end

def blockOut (id : Nat) (o : Out) : Out := match o.ex with
 | .exit i => if i = id then ⟨.normal, o.fr, o.H⟩ else o
 | _ => o

section
variable {C : Ctx} {T : Cf} {f m : Nat} {fr : Frame} {H : Heap} {out : Out}

end

end Go.AM

/- What a walk unfolds. -/
namespace Go.AM
attribute [go_sem] exec runOps dstOk wantedV step evalT evalO evalArgs evalParts getF putF afterRegion assignV boxOf newBox hasIdsP keepF ofVal ofCell pesz callV builtinV lenV binV unV arith shiftI putV indexAddrV live upd pget pset psetA pagg retag retagP byteAV freezeP freezeV joinTags joinTag tags ids scalar cellsLen convV faV fvV shiftBy shiftRo

end Go.AM

/- Wrapped numbers. -/
namespace Go.AM

theorem wrap_u {k : IntKind} (hk : k.signed = false) {n : Int} (h0 : 0 ≤ n) (h1 : n < 2 ^ k.bits) : k.wrap n = n := by
 simp only [IntKind.wrap, hk, Bool.false_and, Bool.false_eq_true, if_false]
 exact Int.emod_eq_of_lt h0 h1

theorem wrap_u8 {n : Int} (h0 : 0 ≤ n) (h1 : n < 256) : IntKind.u8.wrap n = n := wrap_u rfl h0 (by exact h1)
theorem wrap_u16 {n : Int} (h0 : 0 ≤ n) (h1 : n < 65536) : IntKind.u16.wrap n = n := wrap_u rfl h0 (by exact h1)
theorem wrap_u32 {n : Int} (h0 : 0 ≤ n) (h1 : n < 4294967296) : IntKind.u32.wrap n = n := wrap_u rfl h0 (by exact h1)
theorem wrap_u64 {n : Int} (h0 : 0 ≤ n) (h1 : n < 18446744073709551616) : IntKind.u64.wrap n = n := wrap_u rfl h0 (by exact h1)

theorem wrap_i64 {n : Int} (h0 : -9223372036854775808 ≤ n) (h1 : n < 9223372036854775808) : IntKind.i64.wrap n = n := by
 have e1 : IntKind.i64.bits = 64 := rfl
 have e2 : IntKind.i64.signed = true := rfl
 simp only [IntKind.wrap, e1, e2, Bool.true_and, decide_eq_true_eq]
 have p64 : (2 : Int) ^ 64 = 18446744073709551616 := rfl
 have p63 : (2 : Int) ^ (64 - 1) = 9223372036854775808 := rfl
 rw [p64, p63]
 by_cases hn : 0 ≤ n
 ·rw [Int.emod_eq_of_lt hn (by omega), if_neg (by omega)]
 ·have : n % 18446744073709551616 = n + 18446744073709551616 := by omega
  rw [this, if_pos (by omega)]
  omega

end Go.AM

/- Arguments of laws: what comes in, as the abstract machine's values. -/
namespace Go.AM
open Go.ChangeShapes Go.WideShapes Go.ChangeAt Go.RowKit

section
variable {H : Type} {enc : TypeId × Value → H} {P : Program} {W : World}

theorem start_nt {b t : Nat} (hb : b < W.heap.size) (ht : t ≠ 0) : NT (start W) (T0 W.heap.size) t b := ⟨.inr ht, start_own W b, hb⟩

/-- a number -/
theorem arg_int {base : Nat} {t : TypeId} {k : IntKind} {v : Value} {d : DataW H} {ps : List MemPlace} (ht : P.underlying t = some (.int k)) (hval : Value.okWide P W .any base t v) (hd : DataW.Trod enc P W 0 (fun _ => true) true t v d ps) :
  ∃ n, (Lit.int k n).wf = true ∧ VRel (start W) (T0 W.heap.size) (.int k n) v := by
 obtain ⟨n, rfl, _, _, h⟩ := open_int ht hval hd
 exact ⟨n, h, by simp [VRel, V1Rel, SRel, RV]⟩

end

end Go.AM

/- Calls that are handed one object, whose cells name no other: what comes back. -/
namespace Go.AM

/-- a payload's tags all turned to one -/
def rt (t : Nat) (p : AV) : AV := ren (fun _ _ => none) (fun _ => t) p

/-- a callee's tags turned back: n, the tag of what was handed over, to t; all others to none -/
def bk (n t : Nat) (k : Nat) : Nat := if k = n then t else 0

theorem reach_box {H : Heap} {o : Nat} {ob : Obj} (ho : H[o]? = some (some ob)) (hi : ids ob.p = []) : reach H reachFuel [o] [] = [o] := by
 show reach H (99998 + 1 + 1) [o] [] = [o]
 simp [reach, ho, hi]

section
variable {C : Ctx} {f : Nat} {H : Heap} {T : Cf}

/-- a call on a pointer to one object that names no other, and on arguments that are lent -/
theorem Ev1.box (hT : Below C T) {o g : Nat} {ob ob1 : Obj} {xs ys : List AV} {lents : List Lent} {fn : Func} {c : Code} {out : Out} {l : List AV} {rest : Heap} {n t : Nat}
  (hF : C.P.funcs[f]? = some fn) (hb : fn.body = some c) (hrw : C.rw f 0 = false) (ho : H[o]? = some (some ob)) (hg : ob.g = g) (hi : ids ob.p = [])
  (hl : lendArgs C f H 1 xs = some (ys, lents)) (hiy : idsL ys = []) (hob : lents.all (fun x => disjoint x.objs [o]) = true) (hn : ys.length + 2 = n) (hng : n < gtag)
  (hj : joinTags (tagsOb ob) = some t)
  (he : Run C T f 1 c (numbered 0 (coerce C (.ptr 0 0 0 0 :: ys) (paramsOf C f))) [some { ob with p := rt n ob.p, g := 0, tg := n }] out)
  (hex : out.ex = .normal ∨ out.ex = .ret) (hr : resultsV C out.fr out.H fn.results.toList = some l)
  (hH : out.H = some ob1 :: rest) (hid1 : ob1.ids = true) (hi1 : ids ob1.p = []) (hv : ids (resultV l) = [])
  (hu : ∀ k ∈ tags (resultV l) ++ tagsOb ob1, k = 0 ∨ k = n) (ht1 : ob1.tg = 0 ∨ ob1.tg = n) :
  Ev1 C f (.ptr o 0 0 g :: xs) H (ren (fun _ _ => none) (bk n t) (resultV l), upd H o (some { ob1 with p := ren (fun _ _ => none) (bk n t) ob1.p, g := g + (if ob1.g = 0 then 0 else 1), tg := bk n t ob1.tg })) := by
 have hlive : live H o g = some ob := by simp [live, ho, hg]
 have hat : obAt H o = some ob := by simp [obAt, ho]
 have hl' : lendArgs C f H 0 (.ptr o 0 0 g :: xs) = some (.ptr o 0 0 g :: ys, ⟨[], []⟩ :: lents) := by
  simp only [lendArgs, hrw]
  simp [lendV, lend1, tags, hl]
 have hre : reach H reachFuel (idsL (.ptr o 0 0 g :: ys)) [] = [o] := by
  rw [show idsL (.ptr o 0 0 g :: ys) = [o] by simp [idsL, ids, hiy]]
  exact reach_box ho hi
 have hin : intoN H [o] o g = some (0, 0) := by simp [intoN, hlive, idxOf]
 have hlen := lendArgs_len hl
 have hn0 : 0 < n := by omega
 refine Ev1.of (out := out) (l := l) hT hF hb hl' ?_ ?_ hex hr ?_
 ·rw [hre]
  simp only [List.all_cons, Bool.and_eq_true, decide_eq_true_eq, List.length_cons]
  exact ⟨⟨rfl, hob⟩, by omega⟩
 ·rw [hre]
  have e1 : renL (intoN H [o]) (fun t => t) (.ptr o 0 0 g :: ys) = .ptr 0 0 0 0 :: ys := by
   simp only [renL, ren, hin]
   rw [renL_flat ys hiy (fun _ _ => rfl)]
  have e2 : ([o].map fun o' => (obAt H o').map (renObj (intoN H [o]) (fun _ => (AV.ptr o 0 0 g :: ys).length + 1) 0)) = [some { ob with p := rt n ob.p, g := 0, tg := n }] := by
   simp only [List.map_cons, List.map_nil, hat, Option.map_some, renObj, List.length_cons]
   rw [show ys.length + 1 + 1 = n by omega]
   have e : ren (intoN H [o]) (fun _ => n) ob.p = rt n ob.p := ren_same ob.p (fun o g h => by rw [hi] at h; cases h) (fun _ _ => rfl)
   rw [e]
  rw [e1, e2]
  exact he
 ·rw [hre]
  unfold wrap
  have h0 : out.H[0]? = some (some ob1) := by rw [hH]; rfl
  have hat1 : obAt out.H 0 = some ob1 := by simp [obAt, h0]
  have hre1 : reach out.H reachFuel (List.range [o].length ++ ids (resultV l)) [] = [0] := by
   rw [hv]
   exact reach_box h0 hi1
  have hbt : ∀ k, k = 0 ∨ k = n → backTag (⟨[], []⟩ :: lents ++ [⟨[], tagsObjs ([o].map (obAt H))⟩]) k = some (bk n t k) := by
   rintro k (rfl | rfl)
   ·unfold backTag bk
    rw [if_pos rfl, if_neg (by omega)]
   ·unfold backTag bk
    rw [if_neg (by omega), if_pos rfl]
    rw [List.cons_append, show k - 1 = (k - 2) + 1 by omega, List.getElem?_cons_succ, List.getElem?_append_right (by omega), show k - 2 - lents.length = 0 by omega]
    simp [tagsObjs, hat, hj]
  have hgo : ∀ k, k = 0 ∨ k = n → goneOf (⟨[], []⟩ :: lents ++ [⟨[], tagsObjs ([o].map (obAt H))⟩]) k = [] := by
   rintro k (rfl | rfl)
   ·rfl
   ·unfold goneOf
    rw [if_neg (by omega)]
    rw [List.cons_append, show k - 1 = (k - 2) + 1 by omega, List.getElem?_cons_succ, List.getElem?_append_right (by omega), show k - 2 - lents.length = 0 by omega]
    rfl
  generalize (⟨[], []⟩ :: lents ++ [⟨[], tagsObjs ([o].map (obAt H))⟩] : List Lent) = L at *
  have hbT : ∀ k, k = 0 ∨ k = n → backT L k = bk n t k := fun k hk => by unfold backT; rw [hbt k hk]; rfl
  simp only [hre1]
  rw [show ([0].filter fun o' => decide ([o].length ≤ o')) = [] from rfl]
  have hus : (tags (resultV l) ++ tagsObjs ((List.range [o].length).map (obAt out.H)) ++ tagsObjs (([] : List Nat).map (obAt out.H))) = tags (resultV l) ++ tagsOb ob1 := by
   simp [tagsObjs, hat1, List.range_succ]
  rw [hus]
  rw [if_pos (List.all_eq_true.2 fun k hk => by rw [hbt k (hu k hk)]; rfl)]
  rw [show (tags (resultV l) ++ tagsOb ob1).flatMap (goneOf L) = [] from List.flatMap_eq_nil_iff.2 fun k hk => hgo k (hu k hk)]
  simp only [List.filter_nil, strike, List.map_nil, List.append_nil, putBack, hat1, Option.map_some, Option.some.injEq, Prod.mk.injEq]
  refine ⟨ren_same _ (fun o g h => by rw [hv] at h; cases h) (fun k hk => hbT k (hu k (List.mem_append_left _ hk))), ?_⟩
  have hgb : genBack H [o] 0 ob1.g = g + (if ob1.g = 0 then 0 else 1) := by simp [genBack, hat, hg]
  rw [hgb]
  congr 2
  simp only [renObj]
  rw [hbT _ ht1]
  congr 1
  refine ren_same _ (fun o g h => by rw [hi1] at h; cases h) fun k hk => ?_
  unfold tagsOb at hu
  rw [if_pos hid1] at hu
  exact hbT k (hu k (List.mem_append_right _ hk))

end

end Go.AM

/- The table of all that is told; slices of bytes as objects; calls tried on each of a range. -/
namespace Go.AM

open Classical in
/-- the table of all that is told -/
noncomputable def evT (C : Ctx) : Cf := fun f xs H => if h : ∃ r, Ev1 C f xs H r then some (Classical.choose h) else none

theorem Ev1.one {C : Ctx} {f : Nat} {xs : List AV} {H : Heap} {r r2 : AV × Heap} (h : Ev1 C f xs H r) (h2 : Ev1 C f xs H r2) : r = r2 := by
 obtain ⟨n, h⟩ := h
 obtain ⟨n2, h2⟩ := h2
 have e := h (max n n2) (by omega)
 rw [h2 (max n n2) (by omega)] at e
 exact (Option.some.inj e).symm

theorem evT_below (C : Ctx) : Below C (evT C) := by
 intro f xs H r h
 unfold evT at h
 split at h
 ·rename_i hx
  rw [← Option.some.inj h]
  exact Classical.choose_spec hx
 ·cases h

theorem evT_eq {C : Ctx} {f : Nat} {xs : List AV} {H : Heap} {r : AV × Heap} (h : Ev1 C f xs H r) : evT C f xs H = some r := by
 have hx : ∃ r, Ev1 C f xs H r := ⟨r, h⟩
 unfold evT
 rw [dif_pos hx]
 exact congrArg some (Ev1.one (Classical.choose_spec hx) h)

section
variable {C : Ctx} {f : Nat} {H : Heap}

theorem wrap_newQ {lents : List Lent} {v : AV} {H1 : Heap} {o g : Nat} {ob : Obj} (hi : ids v = [o]) (ht : tags v = []) (hl : live H1 o g = some ob) (hob : ob.ids = false) (hp : ids ob.p = []) (hp2 : tags ob.p = []) (hto : tagsOb ob = [0]) (htg : ob.tg = 0) :
  wrap H [] lents v H1 = some (ren (fun o' g' => if o' = o ∧ g' = g then some (H.length, 0) else none) (fun t => t) v, H ++ [some (fresh ob)]) := by
 obtain ⟨h1, h2⟩ := live_iff.1 hl
 unfold wrap
 have hat : obAt H1 o = some ob := by simp [obAt, h1]
 have hρ : ren (backN H [] [o] H1) (backT lents) v = ren (fun o' g' => if o' = o ∧ g' = g then some (H.length, 0) else none) (fun t => t) v := by
  have key : ∀ o' g', o' ∈ ids v → backN H [] [o] H1 o' g' = if o' = o ∧ g' = g then some (H.length, 0) else none := by
   intro o' g' hm
   rw [hi] at hm
   simp only [List.mem_singleton] at hm
   subst hm
   unfold backN
   by_cases hg : g' = g
   ·subst hg
    rw [hl]
    simp [idxOf]
   ·have : live H1 o' g' = none := by
     simp only [live, h1]
     rw [if_neg (fun e => hg (e.symm.trans h2))]
    rw [this]
    simp [hg]
  exact ren_same v (fun o' g' hm => key o' g' hm) (by simp [ht])
 simp only [List.length_nil, List.range_zero, List.nil_append, hi, reach_one h1 hob, ht, tagsObjs, List.append_nil, List.map_nil, hat, hto, List.map_cons, Nat.zero_le, decide_true, List.filter_cons_of_pos, List.filter_nil, strike, putBack]
 have h0 : backTag lents 0 = some 0 := rfl
 simp only [List.all_cons, List.all_nil, h0, Option.isSome_some, Bool.and_true, if_true, List.flatMap_cons, List.flatMap_nil, goneOf, List.append_nil, List.filter_nil, strike, Option.map_some, Option.some.injEq, Prod.mk.injEq]
 refine ⟨hρ, ?_⟩
 have hr : ren (backN H [] [o] H1) (backT lents) ob.p = ob.p := ren_flat ob.p hp (fun t h => by rw [hp2] at h; cases h)
 simp only [renObj, hr, AM.fresh, htg]
 rfl

variable {T : Cf}

theorem Ev1.freshQ (hT : Below C T) {args : List AV} {fn : Func} {c : Code} {as : List AV} {lents : List Lent} {out : Out} {l : List AV} {o g : Nat} {ob : Obj}
  (hF : C.P.funcs[f]? = some fn) (hb : fn.body = some c) (hl : lendArgs C f H 0 args = some (as, lents)) (hi : idsL as = []) (hn : as.length + 1 < gtag)
  (he : Run C T f 0 c (numbered 0 (coerce C as (paramsOf C f))) [] out) (hex : out.ex = .normal ∨ out.ex = .ret) (hr : resultsV C out.fr out.H fn.results.toList = some l)
  (hv : ids (resultV l) = [o]) (ht : tags (resultV l) = []) (ho : live out.H o g = some ob) (hob : ob.ids = false) (hp : ids ob.p = []) (hp2 : tags ob.p = []) (hto : tagsOb ob = [0]) (htg : ob.tg = 0) :
  Ev1 C f args H (ren (fun o' g' => if o' = o ∧ g' = g then some (H.length, 0) else none) (fun t => t) (resultV l), H ++ [some (AM.fresh ob)]) := by
 refine Ev1.of hT hF hb hl ?_ ?_ hex hr ?_
 ·rw [hi, reach_none]
  simp only [Bool.and_eq_true, decide_eq_true_eq]
  exact ⟨List.all_eq_true.2 fun x _ => disjoint_nil x.objs, hn⟩
 ·rw [hi, reach_none, renL_flat as hi (fun _ _ => rfl)]
  exact he
 ·rw [hi, reach_none]
  exact wrap_newQ hv ht ho hob hp hp2 hto htg

end

/-- an object that holds a row's payload, plain -/
structure Holds (p : AV) (ob : Obj) : Prop where
 p : ob.p = p
 g : ob.g = 0
 row : ob.row = true
 ids : ob.ids = false
 tg : ob.tg = 0

/-- a call tried on an empty heap, with arguments that name no object, over a table -/
theorem Ev1.tried {C : Ctx} {T : Cf} (hT : Below C T) {n f : Nat} {args : List AV} {v : AV} {N : Heap} (h : rowRun C T n ⟨f, args, v, N⟩ = true) (H : Heap) : Ev1 C f args H (shiftV H.length v, H ++ shiftH H.length N) := by
 have := RowsOk.cons hT RowsOk.nil h
 obtain ⟨h1, h2⟩ := this _ (List.mem_singleton.2 rfl)
 exact Ev1.frame h1 h2 H

/-- the same, of a plain value -/
theorem Ev1.triedP {C : Ctx} {T : Cf} (hT : Below C T) {n f : Nat} {args : List AV} {v : AV} (h : rowRun C T n ⟨f, args, v, []⟩ = true) (hv : flatV v = true) (H : Heap) : Ev1 C f args H (v, H) := by
 have := Ev1.tried hT h H
 rw [show shiftV H.length v = v from ren_flat v (flat_ids hv).1 (fun _ _ => rfl)] at this
 simpa [shiftH] using this

/-- a call tried on each of a range -/
theorem Ev1.each {C : Ctx} {T : Cf} (hT : Below C T) {n f N : Nat} {a v : Nat → AV} (h : (List.range N).all (fun k => rowRun C T n ⟨f, [a k], v k, []⟩) = true) (hv : ∀ k, flatV (v k) = true) {k : Nat} (hk : k < N) (H : Heap) : Ev1 C f [a k] H (v k, H) :=
 Ev1.triedP hT (List.all_eq_true.1 h k (List.mem_range.2 hk)) (hv k) H

theorem cat_at (H : Heap) (x : Option Obj) : (H ++ [x])[List.length H]? = some x := by simp
theorem cat_set (H : Heap) (x y : Option Obj) : (H ++ [x]).set (List.length H) y = H ++ [y] := by simp

/-- code ends with an outcome of which Q holds -/
def Tells (Q : Out → Prop) (C : Ctx) (T : Cf) (f m : Nat) (c : Code) (fr : Frame) (H : Heap) : Prop := ∃ o, Q o ∧ Run C T f m c fr H o

/-- code goes on, with a frame and a heap of which P holds -/
def Goes (P : Frame → Heap → Prop) (o : Out) : Prop := o.ex = .normal ∧ P o.fr o.H
/-- code leaves the block id so -/
def Exits (id : Nat) (P : Frame → Heap → Prop) (o : Out) : Prop := o.ex = .exit id ∧ P o.fr o.H
/-- code returns so -/
def Rets (P : Frame → Heap → Prop) (o : Out) : Prop := o.ex = .ret ∧ P o.fr o.H

section
variable {Q : Out → Prop} {C : Ctx} {T : Cf} {f m : Nat} {fr : Frame} {H : Heap}

theorem Tells.of {c : Code} {o : Out} (h : Run C T f m c fr H o) (hq : Q o) : Tells Q C T f m c fr H := ⟨o, hq, h⟩

theorem Tells.seq {a b : Code} {fr' : Frame} {H' : Heap} (h : Run C T f m a fr H ⟨.normal, fr', H'⟩) (h' : Tells Q C T f m b fr' H') : Tells Q C T f m (.seq a b) fr H := by
 obtain ⟨o, hq, ho⟩ := h'
 exact ⟨o, hq, Run.seq h ho⟩

theorem Tells.andThen {a b : Code} {P : Frame → Heap → Prop} (h : Tells (Goes P) C T f m a fr H) (h' : ∀ fr' H', P fr' H' → Tells Q C T f m b fr' H') : Tells Q C T f m (.seq a b) fr H := by
 obtain ⟨⟨ex, fr1, H1⟩, ⟨he, hp⟩, ho⟩ := h
 simp only at he hp
 subst he
 exact Tells.seq ho (h' _ _ hp)

theorem Tells.block {id : Nat} {c : Code} {P : Frame → Heap → Prop} (h : Tells (Exits id P) C T f m c fr H) : Tells (Goes P) C T f m (.block id c) fr H := by
 obtain ⟨⟨ex, fr1, H1⟩, ⟨he, hp⟩, ho⟩ := h
 simp only at he hp
 subst he
 exact ⟨_, ⟨rfl, hp⟩, Run.block_exit ho⟩

theorem Tells.assoc {a b c : Code} (h : Tells Q C T f m (.seq a (.seq b c)) fr H) : Tells Q C T f m (.seq (.seq a b) c) fr H := by
 obtain ⟨o, hq, k, hk⟩ := h
 refine ⟨o, hq, k, ?_⟩
 simp only [exec] at hk ⊢
 rw [← hk]
 cases ha : exec C T f m k a fr H with
 | none => rfl
 | some r =>
  obtain ⟨ex, fr', H'⟩ := r
  cases ex with
  | normal => rfl
  | exit id => rfl
  | ret => rfl

/-- a block that is left by its end, or returns; and what stands behind it -/
theorem Tells.blockThen {id : Nat} {c b : Code} {P : Frame → Heap → Prop} (h : Tells (fun o => Exits id P o ∨ (o.ex = .ret ∧ Q o)) C T f m c fr H) (h' : ∀ fr' H', P fr' H' → Tells Q C T f m b fr' H') : Tells Q C T f m (.seq (.block id c) b) fr H := by
 obtain ⟨⟨ex, fr1, H1⟩, hq, ho⟩ := h
 rcases hq with ⟨he, hp⟩ | ⟨he, hq⟩
 ·simp only at he hp
  subst he
  exact Tells.seq (Run.block_exit ho) (h' _ _ hp)
 ·simp only at he
  subst he
  exact ⟨_, hq, Run.seq_out (Run.block ho (by simp)) (by simp)⟩

/-- a loop by its states -/
theorem Tells.loop {c : Code} {σ : Type} (I : σ → Prop) (fr : σ → Frame) (H : σ → Heap) (μ : σ → Nat)
  (step : ∀ s, I s → (∃ s', I s' ∧ Run C T f m c (fr s) (H s) ⟨.normal, fr s', H s'⟩ ∧ μ s' < μ s) ∨ (∃ o, Q o ∧ o.ex ≠ .normal ∧ Run C T f m c (fr s) (H s) o)) (s : σ) (hs : I s) :
  Tells Q C T f m (.loop c) (fr s) (H s) := by
 generalize hn : μ s = n
 induction n using Nat.strongRecOn generalizing s with
 | _ n ih =>
  rcases step s hs with ⟨s', h0, h1, h3⟩ | ⟨o, hq, h1, h2⟩
  ·obtain ⟨o, hq, ho⟩ := ih (μ s') (by omega) s' h0 rfl
   exact ⟨o, hq, Run.loop_step h1 ho⟩
  ·exact ⟨o, hq, Run.loop_out h2 h1⟩

end

end Go.AM

/- Slices of bytes that are handed to a call, whatever their form; objects that hold bytes. -/
namespace Go.AM

/-- a payload of bytes; of none, the nil slice's too -/
def PB (p : AV) (l : List UInt8) : Prop := p = .pb l ∨ (p = .pn ∧ l = [])

/-- a row's object, of this payload, behind g turns -/
structure Rw (p : AV) (g : Nat) (ob : Obj) : Prop where
 p : ob.p = p
 g : ob.g = g
 row : ob.row = true
 ids : ob.ids = false
 tg : ob.tg = 0

/-- lent, the value reads as these bytes; none of them if it is nil -/
def Byt (H : Heap) (a : AV) (l : List UInt8) : Prop :=
 ∃ c p, PB p l ∧ (c = 0 → l = []) ∧ ∀ t, ∃ x, lendV H t a = some (.ro c p t, x)

theorem PB.plen {p : AV} {l : List UInt8} (h : PB p l) : plen p = l.length := by
 rcases h with rfl | ⟨rfl, rfl⟩ <;> rfl

theorem PB.ids {p : AV} {l : List UInt8} (h : PB p l) : ids p = [] := by
 rcases h with rfl | ⟨rfl, rfl⟩ <;> rfl

theorem Byt.ro {H : Heap} {c t : Nat} {p : AV} {l : List UInt8} (h : PB p l) (hc : c = 0 → l = []) : Byt H (.ro c p t) l :=
 ⟨c, p, h, hc, fun _ => ⟨⟨[], [t]⟩, rfl⟩⟩

theorem Byt.nil {H : Heap} : Byt H (.ro 0 .pn 0) [] := Byt.ro (.inr ⟨rfl, rfl⟩) (fun _ => rfl)

theorem Byt.sl {H : Heap} {o off len g : Nat} {ob : Obj} {m l : List UInt8} (ho : H[o]? = some (some ob)) (h : Rw (.pb m) g ob) (hl : (m.drop off).take len = l) (hle : off + len ≤ m.length) : Byt H (.sl o off len g) l := by
 have hlive : live H o g = some ob := by simp [live, ho, h.g]
 refine ⟨if ob.z = 0 ∧ AM.plen ob.p = 0 then 0 else 2, .pb l, .inl rfl, fun h0 => ?_, fun t => ⟨⟨[o], [ob.tg]⟩, ?_⟩⟩
 ·split at h0
  ·rename_i hz
   have hm : m.length = 0 := by have := hz.2; rw [h.p] at this; exact this
   have : m = [] := List.eq_nil_of_length_eq_zero hm
   subst this
   rw [← hl]; simp
  ·cases h0
 ·simp only [lendV, lend1, hlive, h.ids, h.p, psub]
  rw [if_pos hle, hl]
  rfl

theorem Byt.whole {H : Heap} {o g : Nat} {ob : Obj} {l : List UInt8} (ho : H[o]? = some (some ob)) (h : Rw (.pb l) g ob) : Byt H (.sl o 0 l.length g) l :=
 Byt.sl ho h (by simp) (by omega)

section
variable {C : Ctx} {f : Nat} {H : Heap}

end

section
variable {C : Ctx} {f : Nat} {H : Heap} {T : Cf}

theorem ids_result {l : List AV} (h : noTups l = true) : ids (resultV l) = idsL l := by
 unfold resultV
 split
 ·simp [idsL]
 ·rw [if_pos h]; rfl

theorem tags_result {l : List AV} (h : noTups l = true) : tags (resultV l) = tagsL l := by
 unfold resultV
 split
 ·simp [tagsL]
 ·rw [if_pos h]; rfl

/-- a call that tells plain values -/
theorem Ev1.toldP (hT : Below C T) {args xs : List AV} {lents : List Lent} {fn : Func} {c : Code} {l : List AV}
  (hF : C.P.funcs[f]? = some fn) (hb : fn.body = some c) (hl : lendArgs C f H 0 args = some (xs, lents)) (hi : idsL xs = []) (hn : xs.length + 1 < gtag) (hri : idsL l = []) (hrt : tagsL l = []) (hnt : noTups l = true)
  (h : Tells (Rets fun fr H1 => resultsV C fr H1 fn.results.toList = some l) C T f 0 c (numbered 0 (coerce C xs (paramsOf C f))) []) : Ev1 C f args H (resultV l, H) := by
 obtain ⟨⟨ex, fr, H1⟩, ⟨he, hr⟩, hrun⟩ := h
 simp only at he hr
 subst he
 exact Ev1.plain hT hF hb hl hi hn hrun (.inr rfl) hr (by rw [ids_result hnt]; exact hri) (by rw [tags_result hnt]; exact hrt)

end

section
variable {C : Ctx} {T : Cf} {f m : Nat} {fr fr' fr2 : Frame} {H H' : Heap} {ms : List Mark}

/-- a region whose order is drawn, by the marks of its operations -/
theorem Run.dy {id : Nat} {ops : Array Oper} {l : List Nat} (hdy : C.dy f id = true) (hk : C.keep f id = some l) (hn : C.norm f id = false)
  (h : runD C T (ntOf C f) ops ops.toList fr H = some (fr', H', ms)) (hm : marksOk (Region.before ops) ms = true) (hf : keepF l fr' = fr2) : Run C T f m (.region id ops true) fr H ⟨.normal, fr2, H'⟩ := by
 refine ⟨0, ?_⟩
 simp only [exec, hdy, Bool.true_and, Bool.true_or, if_true, h, hm, afterRegion, hk, hn, hf]
 rfl

end

section
variable {C : Ctx} {f : Nat} {H : Heap} {T : Cf}

end

end Go.AM

/- Arguments of laws: a slice of bytes, with what its kind says; numbers. -/
namespace Go.AM
open Go.ChangeShapes Go.WideShapes Go.ChangeAt Go.RowKit

section
variable {H : Type} {enc : TypeId × Value → H} {P : Program} {W : World}

theorem nat_wf {k : IntKind} (hk : k.signed = false) {n : Int} (h : (Lit.int k n).wf = true) : ∃ m : Nat, n = (m : Int) ∧ m < 2 ^ k.bits := by
 have h1 : k.min ≤ n ∧ n ≤ k.max := by simpa [Lit.wf] using h
 cases k <;> simp [IntKind.signed] at hk <;> simp only [IntKind.min, IntKind.max, IntKind.signed, IntKind.bits] at h1 ⊢ <;> exact ⟨n.toNat, by simp at h1; omega, by simp at h1; omega⟩

end

end Go.AM

/- Arguments of laws: structs, cell by cell. -/
namespace Go.AM
open Go.ChangeShapes Go.WideShapes Go.ChangeAt Go.RowKit

section
variable {H : Type} {enc : TypeId × Value → H} {P : Program} {W : World}

/-- a struct's fields: their types and offsets -/
def fldsOf : TypeDesc → List (TypeId × Nat)
 | .struct fs => fs.toList.map fun f => (f.type, f.offset)
 | _ => []

end

end Go.AM

/- Code that ends so that something holds: loops by a property of each round, parts one behind the other. -/
namespace Go.AM

section
variable {Q Q' : Out → Prop} {C : Ctx} {T : Cf} {f m : Nat} {fr : Frame} {H : Heap}

theorem Tells.mono {c : Code} (h : Tells Q C T f m c fr H) (hq : ∀ o, Q o → Q' o) : Tells Q' C T f m c fr H := by
 obtain ⟨o, h1, h2⟩ := h
 exact ⟨o, hq o h1, h2⟩

theorem Tells.blk {id : Nat} {c : Code} (h : Tells Q C T f m c fr H) (hq : ∀ o, Q o → o.ex ≠ .exit id) : Tells Q C T f m (.block id c) fr H := by
 obtain ⟨o, h1, h2⟩ := h
 exact ⟨o, h1, Run.block h2 (hq o h1)⟩

/-- what goes on, and what does not -/
def Or2 (P : Frame → Heap → Prop) (Q : Out → Prop) (o : Out) : Prop := (o.ex = .normal ∧ P o.fr o.H) ∨ (o.ex ≠ .normal ∧ Q o)

theorem Tells.or {a b : Code} {P : Frame → Heap → Prop} (h : Tells (Or2 P Q) C T f m a fr H) (h' : ∀ fr' H', P fr' H' → Tells Q C T f m b fr' H') : Tells Q C T f m (.seq a b) fr H := by
 obtain ⟨⟨ex, fr1, H1⟩, hq, hr⟩ := h
 rcases hq with ⟨he, hp⟩ | ⟨he, hq⟩
 ·simp only at he hp
  subst he
  exact Tells.seq hr (h' _ _ hp)
 ·exact ⟨_, hq, Run.seq_out hr he⟩

theorem Tells.goes {c : Code} {P : Frame → Heap → Prop} (h : Tells (Goes P) C T f m c fr H) : Tells (Or2 P Q) C T f m c fr H := h.mono fun _ h => .inl h

theorem Tells.condT {c : Operand} {a b : Code} (hc : evalO C fr c = .bool true) (h : Tells Q C T f m a fr H) : Tells Q C T f m (.cond c a b) fr H := by
 obtain ⟨o, hq, ho⟩ := h
 exact ⟨o, hq, Run.cond (d := true) hc ho⟩
theorem Tells.condF {c : Operand} {a b : Code} (hc : evalO C fr c = .bool false) (h : Tells Q C T f m b fr H) : Tells Q C T f m (.cond c a b) fr H := by
 obtain ⟨o, hq, ho⟩ := h
 exact ⟨o, hq, Run.cond (d := false) hc ho⟩

end

/-- a part of code, by the way to it: 0 the left, 1 the right of a sequence, of a choice; the body of a block, a loop -/
def codeAt : List Nat → Code → Option Code
 | [], c => some c
 | 0 :: r, .seq a _ => codeAt r a
 | _ :: r, .seq _ b => codeAt r b
 | 0 :: r, .cond _ a _ => codeAt r a
 | _ :: r, .cond _ _ b => codeAt r b
 | _ :: r, .block _ c => codeAt r c
 | _ :: r, .loop c => codeAt r c
 | _, _ => none

theorem piece {O : Option Code} {P : Code → Prop} (h : ∃ code, O = some code ∧ P code) (code' : Code) (h' : O = some code') : P code' := by
 obtain ⟨c, h1, h2⟩ := h
 rw [h'] at h1
 exact (Option.some.inj h1) ▸ h2

/-- a bit set in a byte -/
def orB (y : UInt8) (j : Nat) : UInt8 := UInt8.ofNat (y.toNat ||| 2 ^ j)

/-- bits set in bytes, those of which f holds; the first is the bit at off -/
def bitN (f : Nat → Bool) (off : Nat) (x : List UInt8) : Nat → List UInt8
 | 0 => x
 | n + 1 => if f n then (bitN f off x n).set ((n + off) / 8) (orB ((bitN f off x n).getD ((n + off) / 8) 0) ((n + off) % 8)) else bitN f off x n

end Go.AM

/- Arguments of laws: values whose cells are all plain (structs of structs, too), and rows of them. -/
namespace Go.AM
open Go.ChangeShapes Go.WideShapes Go.ChangeAt Go.RowKit

/-- a plain cell -/
inductive Leaf where
 | b
 | i (k : IntKind)
 | s

def leafOf : TypeDesc → Option Leaf
 | .bool => some .b
 | .int k => some (.i k)
 | .string => some .s
 | _ => none

def LeafRel : Leaf → AV → Value → Prop
 | .b, a, u => ∃ b, a = .bool b ∧ u = .bool b
 | .i k, a, u => ∃ n, a = .int k n ∧ u = .int k n ∧ (Lit.int k n).wf = true
 | .s, a, u => ∃ s : List UInt8, a = .str s ∧ u = .string ⟨⟨s⟩⟩ ∧ s.length ≤ maxLen

/-- cells, each a plain one -/
inductive Cells : List Leaf → List AV → List Value → Prop
 | nil : Cells [] [] []
 | cons {k a u ks as us} : LeafRel k a u → Cells ks as us → Cells (k :: ks) (a :: as) (u :: us)

theorem Cells.append {ks ks' as as' us us'} (h : Cells ks as us) (h' : Cells ks' as' us') : Cells (ks ++ ks') (as ++ as') (us ++ us') := by
 induction h with
 | nil => exact h'
 | cons h1 _ ih => exact .cons h1 ih

theorem Cells.len {ks as us} (h : Cells ks as us) : as.length = ks.length ∧ us.length = ks.length := by
 induction h with
 | nil => exact ⟨rfl, rfl⟩
 | cons h1 _ ih => simp [ih.1, ih.2]

theorem LeafRel.rel {k a u} {W : World} (h : LeafRel k a u) : u.oneCell' = true ∧ ∀ N, RV W N a u := by
 cases k with
 | b => obtain ⟨b, rfl, rfl⟩ := h; exact ⟨rfl, fun N => by simp [RV]⟩
 | i k => obtain ⟨n, rfl, rfl, _⟩ := h; exact ⟨rfl, fun N => by simp [RV]⟩
 | s => obtain ⟨s, rfl, rfl, _⟩ := h; exact ⟨rfl, fun N => by simp [RV]⟩

theorem Cells.at {ks as us} (h : Cells ks as us) : ∀ (j : Nat) (a : AV), as[j]? = some a → ∃ k u, us[j]? = some u ∧ LeafRel k a u := by
 induction h with
 | nil => intro j a h; simp at h
 | cons h1 _ ih =>
  intro j a h
  cases j with
  | zero => simp at h; subst h; exact ⟨_, _, rfl, h1⟩
  | succ j => simp at h; simpa using ih j a h

section
variable (P : Program)

def leavesF (L : TypeId → Option (List Leaf)) : Nat → List Field → Option (List Leaf)
 | _, [] => some []
 | o, f :: r => if f.offset = o then
   match L f.type with
   | some a => if a.length = P.cellsOf f.type then
     match leavesF L (o + a.length) r with
     | some b => some (a ++ b)
     | none => none
    else none
   | none => none
  else none

/-- the plain cells of a type -/
def leaves : Nat → TypeId → Option (List Leaf)
 | 0, _ => none
 | n + 1, t => match P.underlying t with
  | some (.struct fs) => match leavesF P (leaves n) 0 fs.toList with
   | some L => if L.length = P.cellsOf t then some L else none
   | none => none
  | some d => (leafOf d).map fun k => [k]
  | none => none

end

section
variable {H : Type} {enc : TypeId × Value → H} {P : Program} {W : World} {base : Nat} {sp : Nat → Bool} {held : Bool}

/-- a string that lies within what is read -/
inductive StrIn {H : Type} : DataW H → List UInt8 → Prop
 | lit (s : List UInt8) : StrIn (.lit (.string s)) s
 | agg {d : DataW H} {l : List (DataW H)} {s : List UInt8} : d ∈ l → StrIn d s → StrIn (.agg l) s
 | elem {d : DataW H} {l r : List (DataW H)} {s : List UInt8} : d ∈ l → StrIn d s → StrIn (.slice l r) s

theorem leavesF_cells {S : List UInt8 → Prop} {L : TypeId → Option (List Leaf)} {T : TypeId → List Value → Prop} (hL : ∀ t M cs, L t = some M → T t cs → ∃ as, Cells M as cs ∧ ∀ s, .str s ∈ as → S s) (cs : List Value) :
  ∀ (r : List Field) (o : Nat) (M : List Leaf), leavesF P L o r = some M → (∀ f ∈ r, T f.type ((cs.drop f.offset).take (P.cellsOf f.type))) → o + M.length ≤ cs.length → ∃ as, Cells M as ((cs.drop o).take M.length) ∧ ∀ s, .str s ∈ as → S s
 | [], o, M, h, _, _ => by
  simp only [leavesF, Option.some.injEq] at h
  subst h
  exact ⟨[], by simpa using Cells.nil, fun s h => by cases h⟩
 | f :: r, o, M, h, hT, hlen => by
  unfold leavesF at h
  split at h
  ·rename_i hof
   split at h
   ·rename_i a ha
    split at h
    ·rename_i hal
     split at h
     ·rename_i b hb
      obtain rfl := Option.some.inj h
      obtain ⟨as, h1, s1⟩ := hL _ _ _ ha (hT f (by simp))
      rw [List.length_append] at hlen
      obtain ⟨bs, h2, s2⟩ := leavesF_cells hL cs r (o + a.length) b hb (fun g hg => hT g (by simp [hg])) (by omega)
      rw [hof, ← hal] at h1
      refine ⟨as ++ bs, ?_, fun s hs => (List.mem_append.1 hs).elim (s1 s) (s2 s)⟩
      have e : (cs.drop o).take (a ++ b).length = (cs.drop o).take a.length ++ (cs.drop (o + a.length)).take b.length := by
       rw [List.length_append, List.take_add, List.drop_drop]
      rw [e]
      exact h1.append h2
     ·cases h
    ·cases h
   ·cases h
  ·cases h

theorem leaves_cells {S : List UInt8 → Prop} : ∀ (n : Nat) (t : TypeId) (L : List Leaf) (fuel : Nat) (cs : List Value) (x : DataW H × List MemPlace), leaves P n t = some L → DataW.trod enc P W base sp held fuel t cs = some x → (∀ s, StrIn x.1 s → S s) → ∃ as, Cells L as cs ∧ ∀ s, .str s ∈ as → S s
 | 0, _, _, _, _, _, h, _, _ => by cases h
 | n + 1, t, L, fuel, cs, x, h, hx, hS => by
  unfold leaves at h
  split at h
  ·rename_i fs hu
   split at h
   ·rename_i M hM
    split at h
    ·rename_i hl
     obtain rfl := Option.some.inj h
     obtain ⟨xs, m, _, hxe, hcl, hxl, hall⟩ := DataW.trod_struct hu hx
     obtain ⟨as, h1, hs1⟩ := leavesF_cells (S := S) (T := fun t cs => ∃ fuel x, DataW.trod enc P W base sp held fuel t cs = some x ∧ ∀ s, StrIn x.1 s → S s) (fun t M cs h1 ⟨fuel, x, h2, h3⟩ => leaves_cells n t M fuel cs x h1 h2 h3) cs fs.toList 0 M hM (by
      intro f hf
      obtain ⟨i, hi, rfl⟩ := List.mem_iff_getElem.1 hf
      have hi' : i < fs.size := by simpa using hi
      have := hall i fs[i] (Array.getElem?_eq_getElem hi')
      rw [List.getElem?_eq_getElem (by omega)] at this
      simp only [Array.getElem_toList]
      refine ⟨m, _, this, fun s hs => hS s ?_⟩
      rw [hxe]
      exact .agg (List.mem_map.2 ⟨_, List.getElem_mem _, rfl⟩) hs) (by omega)
     refine ⟨as, ?_, hs1⟩
     rw [List.drop_zero, List.take_of_length_le (by omega)] at h1
     exact h1
    ·cases h
   ·cases h
  ·rename_i d hs hu
   cases d with
   | bool =>
    simp only [leafOf, Option.map_some, Option.some.injEq] at h
    subst h
    obtain ⟨b, rfl, _⟩ := DataW.trod_bool hu hx
    exact ⟨[.bool b], .cons ⟨b, rfl, rfl⟩ .nil, fun s hs => by simp at hs⟩
   | int k =>
    simp only [leafOf, Option.map_some, Option.some.injEq] at h
    subst h
    obtain ⟨z, rfl, _, hw⟩ := DataW.trod_int hu hx
    exact ⟨[.int k z], .cons ⟨z, rfl, rfl, hw⟩ .nil, fun s hs => by simp at hs⟩
   | string =>
    simp only [leafOf, Option.map_some, Option.some.injEq] at h
    subst h
    obtain ⟨⟨⟨s⟩⟩, rfl, hxe, hw⟩ := DataW.trod_string hu hx
    refine ⟨[.str s], .cons ⟨s, rfl, rfl, hw⟩ .nil, fun s' hs => ?_⟩
    obtain rfl : s' = s := by simpa using hs
    exact hS _ (by rw [hxe]; exact .lit s')
   | _ => simp [leafOf] at h
  ·cases h

theorem cell_of {a : Addr} {k : Nat} {u : Value} (h : W.cell? ((a.add (0 * k)).add 0) = some u) : a.spot = none := by
 have := World.cell?_spot h
 simpa [Addr.add] using this

/-- a row of structs that is an argument -/
theorem arg_rows {n : Nat} {t e : TypeId} {L : List Leaf} {b0 : Nat} {v : Value} {d : DataW H} {ps : List MemPlace} (ht : P.underlying t = some (.slice e)) (hL : leaves P n e = some L) (hc : P.cellsOf e = L.length) (hpos : 0 < L.length)
  (hval : Value.okWide P W .any b0 t v) (hd : DataW.Trod enc P W 0 (fun _ => true) true t v d ps) :
  ∃ (c : Nat) (rows : List (List AV)), (∀ r ∈ rows, (∃ cs, Cells L r cs) ∧ ∀ s, .str s ∈ r → StrIn d s) ∧ (c = 0 → rows = []) ∧ rows.length ≤ maxLen ∧ VRel (start W) (T0 W.heap.size) (.ro c (.pr L.length (rows.map .pc)) 1) v := by
 obtain ⟨a0, len0, cap0, rfl⟩ := okWide_slice ht hval
 obtain ⟨fuel, hf⟩ := hd
 rcases DataW.trod_slice ht hf with ⟨hcs, _⟩ | ⟨a, len, cap, elems, rest, m, _, hcs, hxe, hb, hlc, hcm, hel0, hel, _⟩
 ·simp [Value.cells] at hcs
  obtain ⟨rfl, rfl, rfl⟩ := hcs
  refine ⟨0, [], by simp, fun _ => rfl, by simp, ?_⟩
  simp only [VRel, V1Rel, SRel, RV]
  exact ⟨none, 0, rfl, ⟨Nat.le_refl _, fun _ => ⟨rfl, rfl⟩, fun h => absurd rfl h, fun h => by simp at h⟩, fun a ha => by cases ha⟩
 ·simp [Value.cells] at hcs
  obtain ⟨rfl, rfl, rfl⟩ := hcs
  have each : ∀ i : Nat, i < len0 → ∃ as cs, Cells L as cs ∧ (∀ s, .str s ∈ as → StrIn d s) ∧ ∀ j, j < L.length → W.cell? ((a.add (i * L.length)).add j) = cs[j]? := by
   intro i hi
   have h := hel i hi
   rw [hc, List.getElem?_eq_getElem (by omega), Option.bind_eq_some_iff] at h
   obtain ⟨cs, h1, h2⟩ := h
   obtain ⟨as, h3, h4⟩ := leaves_cells (S := StrIn d) n e L m cs _ hL h2 (fun s hs => by
    have hd : d = .slice (elems.map (·.1)) (rest.map (·.1)) := (Prod.mk.inj hxe).1
    rw [hd]
    exact .elem (List.mem_map.2 ⟨_, List.getElem_mem _, rfl⟩) hs)
   exact ⟨as, cs, h3, h4, (World.cells?_some h1).2.2⟩
  have each' : ∀ i : Nat, ∃ as, i < len0 → ∃ cs, Cells L as cs ∧ (∀ s, .str s ∈ as → StrIn d s) ∧ ∀ j, j < L.length → W.cell? ((a.add (i * L.length)).add j) = cs[j]? := by
   intro i
   by_cases hi : i < len0
   ·obtain ⟨as, cs, h⟩ := each i hi
    exact ⟨as, fun _ => ⟨cs, h⟩⟩
   ·exact ⟨[], fun h => absurd h hi⟩
  obtain ⟨f, hfe⟩ := Classical.axiomOfChoice each'
  have hlen : ((List.range len0).map f).length = len0 := by simp
  refine ⟨2, (List.range len0).map f, ?_, (fun h => by cases h), by rw [hlen]; omega, ?_⟩
  ·intro r hr
   obtain ⟨i, hi, rfl⟩ := List.mem_map.1 hr
   obtain ⟨cs, h, hs, _⟩ := hfe i (List.mem_range.1 hi)
   exact ⟨⟨cs, h⟩, hs⟩
  ·simp only [VRel, V1Rel, SRel, RV]
   have hpl : plen (.pr L.length (((List.range len0).map f).map .pc)) = len0 := by simp [plen]
   rw [hpl]
   refine ⟨some a, cap0, rfl, ⟨hlc, fun h => by simp at h, fun _ => rfl, fun h => by simp at h⟩, fun a' ha' hn => ?_⟩
   obtain rfl := Option.some.inj ha'
   obtain ⟨cs0, k0, _, h0⟩ := hfe 0 (by omega)
   have hcl := k0.len
   have hsp : a.spot = none := by
    have h := h0 0 hpos
    rw [List.getElem?_eq_getElem (by omega)] at h
    exact cell_of h
   obtain ⟨b, off, spot⟩ := a
   simp only at hsp
   subst hsp
   refine ⟨rfl, ?_, ?_⟩
   ·have h := h0 0 hpos
    rw [List.getElem?_eq_getElem (by omega), add_plain, add_plain] at h
    exact start_nt (block_lt_of_cell h) (by omega)
   ·rw [RP_pr]
    refine ⟨hpos, fun j r hr => ?_⟩
    rw [List.map_map, List.getElem?_map] at hr
    cases hj : (List.range len0)[j]? with
    | none => rw [hj] at hr; cases hr
    | some i =>
     rw [hj] at hr
     simp only [Option.map_some, Option.some.injEq, Function.comp] at hr
     subst hr
     have hi := (List.getElem?_eq_some_iff.1 hj)
     obtain ⟨hi1, hi2⟩ := hi
     simp at hi1 hi2
     subst hi2
     obtain ⟨cs, h1, _, h2⟩ := hfe j hi1
     refine ⟨by simp [rowLen, h1.len.1], ?_⟩
     rw [RP_pc]
     intro k x hx
     obtain ⟨kk, u, hu, hr⟩ := h1.at k x hx
     have hkl : k < L.length := by have := (List.getElem?_eq_some_iff.1 hx).1; rw [h1.len.1] at this; exact this
     have h3 := h2 k hkl
     rw [add_plain, add_plain, hu] at h3
     refine ⟨u, ?_, (hr.rel (W := W)).1, (hr.rel (W := W)).2 _⟩
     rw [← h3]
     simp only [Nat.add_assoc]
     rfl

/-- a row of plain values of one cell, no numbers -/
theorem arg_leafs {t e : TypeId} {k : Leaf} {b0 : Nat} {v : Value} {d : DataW H} {ps : List MemPlace} (ht : P.underlying t = some (.slice e)) (hL : leaves P 1 e = some [k]) (hc : P.cellsOf e = 1)
  (hval : Value.okWide P W .any b0 t v) (hd : DataW.Trod enc P W 0 (fun _ => true) true t v d ps) :
  ∃ (c : Nat) (as : List AV), (∀ a ∈ as, ∃ u, LeafRel k a u) ∧ (c = 0 → as = []) ∧ as.length ≤ maxLen ∧ (∀ s, .str s ∈ as → StrIn d s) ∧ VRel (start W) (T0 W.heap.size) (.ro c (.pc as) 1) v := by
 obtain ⟨c, rows, h1, h2, h3, h4⟩ := arg_rows ht hL hc (by simp) hval hd
 have hone : ∀ r ∈ rows, ∃ a, r = [a] ∧ ∃ u, LeafRel k a u := by
  intro r hr
  obtain ⟨⟨cs, h⟩, _⟩ := h1 r hr
  cases h with
  | cons hq hn => cases hn with | nil => exact ⟨_, rfl, _, hq⟩
 refine ⟨c, rows.flatten, ?_, ?_, ?_, ?_, ?_⟩
 ·intro a ha
  obtain ⟨r, hr, har⟩ := List.mem_flatten.1 ha
  obtain ⟨a', rfl, h⟩ := hone r hr
  obtain rfl : a = a' := by simpa using har
  exact h
 ·intro h0; rw [h2 h0]; rfl
 ·have : ∀ l : List (List AV), (∀ r ∈ l, ∃ a, r = [a] ∧ ∃ u, LeafRel k a u) → l.flatten.length = l.length := by
   intro l
   induction l with
   | nil => intro _; rfl
   | cons x l ih =>
    intro h
    obtain ⟨a, rfl, _⟩ := h x (by simp)
    rw [List.flatten_cons, List.length_append, ih (fun r hr => h r (by simp [hr]))]; simp; omega
  rw [this rows hone]; exact h3
 ·intro s hs
  obtain ⟨r, hr, har⟩ := List.mem_flatten.1 hs
  exact (h1 r hr).2 s har
 ·have hat : ∀ (l : List (List AV)), (∀ r ∈ l, ∃ a, r = [a] ∧ ∃ u, LeafRel k a u) → l.flatten.length = l.length ∧ ∀ (j : Nat) (a : AV), l.flatten[j]? = some a → l[j]? = some [a] := by
   intro l
   induction l with
   | nil => intro _; exact ⟨rfl, fun j a h => by simp at h⟩
   | cons x l ih =>
    intro h
    obtain ⟨a, rfl, _⟩ := h x (by simp)
    obtain ⟨i1, i2⟩ := ih (fun r hr => h r (by simp [hr]))
    refine ⟨by rw [List.flatten_cons, List.length_append, i1]; simp; omega, fun j b hb => ?_⟩
    cases j with
    | zero => simpa using hb
    | succ j => simp at hb; simpa using i2 j b hb
  obtain ⟨q1, q2⟩ := hat rows hone
  simp only [VRel, V1Rel, SRel, RV] at h4 ⊢
  obtain ⟨ad, cap, hv, hs, hcell⟩ := h4
  have hpl : plen (.pr [k].length (rows.map .pc)) = plen (.pc rows.flatten) := by simp [plen, q1]
  rw [hpl] at hv hs hcell
  refine ⟨ad, cap, hv, hs, fun a ha hn => ?_⟩
  obtain ⟨r1, r2, r3⟩ := hcell a ha hn
  refine ⟨r1, r2, ?_⟩
  rw [RP_pc]
  rw [RP_pr] at r3
  intro j x hx
  have hj := q2 j x hx
  have := (r3.2 j (.pc [x]) (by rw [List.getElem?_map, hj]; rfl)).2
  rw [RP_pc] at this
  have := this 0 x rfl
  simpa using this

end

end Go.AM

/- The marks of a drawing region: only the pairs whose order is free are looked at. -/
namespace Go.AM

/-- the pairs whose order is free -/
def freePairs (b : Array Nat) (n : Nat) : List (Nat × Nat) :=
 (List.range n).flatMap fun j => (List.range j).filterMap fun i => if (b.getD j 0).testBit i then none else some (i, j)

/-- do the marks of a pair bear each other? -/
def bearP (ms : List Mark) (p : Nat × Nat) : Bool := match ms[p.1]?, ms[p.2]? with | some x, some y => bear x y | _, _ => false

end Go.AM
