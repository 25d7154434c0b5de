/- The abstract machine, part 3: a deterministic evaluator for the program's code and the proof that what it tells is so. Conditions: none beyond the theorems' own. -/
import Derived.Attr
import Derived.ChangeCalls
import Derived.LaidHandle
import Derived.LaidLaws
import Derived.Lib.LaidTab
import Derived.MakeChecks
import Derived.ProofKit
import Derived.Stop.Joined
import Derived.Test.YteblpjhkgdpchaaAm2
set_option linter.unusedSimpArgs false
set_option linter.unusedVariables false
/- A law's statement out of a run of the abstract machine. -/
namespace Go.AM
open Go.ChangeShapes Go.WideShapes Go.ChangeAt Go.RowKit

/-- tags: 0: what is new; the others: all -/
def T0 (n : Nat) (t b : Nat) : Prop := n ≤ b ∨ t ≠ 0

def start (W : World) : Kx := ⟨fun _ => default, [], W⟩

theorem start_own (W : World) (b : Nat) : ¬ Own (start W) b := by
  rintro ⟨o, ob, h, _⟩
  simp [start] at h

/-- the package variables that the machine reads hold what it takes them to hold -/
def GOk (C : Ctx) (W : World) : Prop := ∀ g p, C.G g = some p → plen p ≠ 0 ∧ g < W.heap.size ∧ RP W (fun b => b < W.heap.size) p (fun j => W.cell? ⟨g, j, none⟩)

theorem GOk.none {C : Ctx} (hG : ∀ g, C.G g = none) (W : World) : GOk C W := fun g p h => by rw [hG] at h; cases h

theorem start_inv {C : Ctx} {W : World} (hG : GOk C W) : Inv C (start W) (T0 W.heap.size) where
  obj := fun o ob h => by simp [start] at h
  inj := fun o o' ob ob' h => by simp [start] at h
  own := fun b h => absurd h (start_own W b)
  new := fun b h => .inl h
  mono := fun t b h => by
    rcases h with h | h
    · exact .inl h
    · exact absurd rfl h
  glob := fun g p h => by
    obtain ⟨h1, h2, h3⟩ := hG g p h
    have hn : ∀ b, b < W.heap.size → NT (start W) (T0 W.heap.size) gtag b := fun b hb => ⟨.inr (by simp [gtag]), start_own W b, hb⟩
    exact ⟨h1, hn g h2, RP_mono (w' := (start W).w) (fun b hb => ⟨hn b hb, fun _ _ h => h⟩) p _ _ (fun _ _ h => h) h3⟩

/-- what a law's run says -/
def LawEnds (W : World) (e : Ending) (W' : World) : Prop :=
  e = .returned (.bool true) ∧ W'.os = W.os ∧ W'.output = W.output ∧ ∀ b : Nat, b < W.heap.size → W'.heap[b]? = W.heap[b]?

theorem law_calls {C : Ctx} (hC : CtxOk C) {n f : Nat} {args : List AV} {vs : Array Value} {W : World} {H' : Heap} (hG : GOk C W) (h : callF C n f args [] = some (.bool true, H'))
    (ha : ArgsRel (start W) (T0 W.heap.size) args vs.toList) : Calls C.P f vs W (LawEnds W) := by
  have := callF_ok hC n f args [] _ H' h (start W) (T0 W.heap.size) vs rfl (start_inv hG) ha
  refine Calls.mono this fun e W' he => ?_
  cases e with
  | panicked => exact he.elim
  | outgrown => exact he.elim
  | returned v =>
    obtain ⟨μ, hI, hE, hv⟩ := he
    simp only [VRel, V1Rel, SRel, RV] at hv
    subst hv
    refine ⟨rfl, hE.os, hE.output, fun b hb => hE.exact b hb (start_own W b) ?_⟩
    rintro (h | h)
    · have : b < W.heap.size := hb
      omega
    · exact h rfl

section
variable {H : Type} {enc : TypeId × Value → H}

theorem law_post {P : Program} {f : Func} {s : ChangeSpec} {apart fresh handsOn again : Bool} {W W' : World} {args : Array Value} {ds gs : List (DataW H)} {before : List MemPlace} {rt : TypeId}
    (hrow : laidOutB P = true) (hmap : mapsRowed P = true) (hfull : ∀ t e, t < P.types.size → P.underlying t = some (.slice e) → 0 < P.cellsOf e) (hparams : ∀ t ∈ f.params.toList, t < P.types.size)
    (hvars : s.vars = []) (hrt : f.resultTypes = #[rt]) (hb : P.underlying rt = some .bool)
    (hW : DataW.Whole enc P f.params.toList s.vars apart W args.toList ds gs before) (hfn : s.fn H ds = { results := [.lit (.bool true)], args := ds })
    (hos : W'.os = W.os) (hout : W'.output = W.output) (hsame : ∀ b : Nat, b < W.heap.size → W'.heap[b]? = W.heap[b]?) :
    s.post enc P f apart fresh handsOn again W args (.bool true) W' := by
  have hlt := hW.lt
  have hcell : ∀ b off, b < W.heap.size → W'.cell? ⟨b, off, none⟩ = W.cell? ⟨b, off, none⟩ := fun b off h => cell_of_heap (hsame b h) off
  have hfz : ∀ a : Addr, a.block < W.heap.size → W'.frozen? a = W.frozen? a := fun a h => by unfold World.frozen?; rw [hsame _ h]
  have hat : ∀ p ∈ before, W.sameAt W' p := by
    intro p hp
    have := hlt p hp
    cases p with
    | cell b off => exact hcell b off this
    | map b => exact hsame b this
  have K := kids_rows hrow hmap
  obtain ⟨p, q, hA, hV, hps, hz, hn⟩ := id hW
  rw [hvars] at hV
  obtain ⟨rfl, rfl⟩ := trodVars_none hV
  simp only [List.append_nil] at hps
  subst hps
  -- the arguments again
  have again' : ∀ sp : Nat → Bool, (∀ x ∈ before, sp x.block = true) → DataW.TrodAll enc P W' 0 sp true f.params.toList args.toList ds before := by
    intro sp hsp
    have carry : ∀ {ts : List TypeId} {vs : List Value} {ds : List (DataW H)} {ps : List MemPlace}, DataW.TrodAll enc P W 0 (fun _ => true) true ts vs ds ps → (∀ x ∈ ps, W.sameAt W' x) → DataW.TrodAll enc P W' 0 (fun _ => true) true ts vs ds ps := by
      intro ts
      induction ts with
      | nil => intro vs ds ps h _; cases vs <;> cases ds <;> first | exact h | exact h.elim
      | cons t ts ih =>
        intro vs ds ps h hs
        cases vs with
        | nil => exact h.elim
        | cons v vs =>
          cases ds with
          | nil => exact h.elim
          | cons d ds =>
            obtain ⟨a, b, ⟨n, h1⟩, h2, e⟩ := h
            subst e
            exact ⟨a, b, ⟨n, DataW.trod_carry n t _ _ h1 fun x hx => hs x (List.mem_append_left _ hx)⟩, ih h2 fun x hx => hs x (List.mem_append_right _ hx), rfl⟩
    exact DataW.TrodAll.respare K hfull hparams (carry hA hat) hsp
  have hres : ∀ (b : Nat) (sp : Nat → Bool) (hd : Bool), DataW.TrodAll enc P W' b sp hd f.resultTypes.toList ((Value.bool true).resultList f.resultTypes.size) [.lit (.bool true)] [] := by
    intro b sp hd
    rw [hrt]
    exact trodAll_mk1 (shut_bool hb true)
  have hfn' : s.fn H (ds ++ []) = { results := [.lit (.bool true)], args := ds } := by rw [List.append_nil]; exact hfn
  have hold : ∀ x ∈ before, (fun b => decide (b < W.heap.size)) x.block = true := fun x hx => by simpa using hlt x hx
  have hkept : W.keptBut W' (fun x => x ∈ before ∧ x ∈ before ++ []) := by
    refine ⟨hos, hout, fun i hi => ?_⟩
    rw [hsame i hi]
    generalize W.heap[i]? = x
    rcases x with _ | x
    · rfl
    · cases x <;> simp
  refine ⟨ds, [], before, [], before, [], hW, ?_, ?_, ?_, ?_, fun _ => ?_⟩
  · rw [hfn']; exact hres _ _ _
  · rw [hfn']; exact again' _ hold
  · rw [hfn', hvars]; rfl
  · refine World.keptBut_mono (fun x hx => ?_) hkept
    exact ⟨hx.1, .inr (.inl hx.1)⟩
  · refine ⟨ok_one hrt rfl (okWide_bool_mk hb true), [.lit (.bool true)] ++ ds, [], ([] ++ before) ++ [], ⟨[] ++ before, [], ?_, ?_, rfl, ?_, ?_⟩, ?_⟩
    · exact trodAll_append (again' _ (fun _ _ => rfl)) (hres _ _ _)
    · rw [hvars]; rfl
    · intro b off hp
      have hp' : MemPlace.cell b off ∈ before := by simpa using hp
      rw [hfz ⟨b, off, none⟩ (hlt (MemPlace.cell b off) hp')]
      exact hz b off hp'
    · intro ha
      simpa using hn ha
    · intro x hx _
      simpa using hx

/-- the arguments, read as they came, and a run of the machine that tells true -/
theorem law_lifted {a : Assume} {D : Checked} {X : Ctx} (hX : X.P = D.prog) (hC : CtxOk X) (hG : ∀ g, X.G g = none) {os : Os} {f : FuncId} {fn : Func} {s : ChangeSpec} {conds : List PathCond} {apart fresh handsOn again : Bool} {rt : TypeId}
    (own : ownKnob D.prog.godebug = none) (started : os.Started) (noInit : D.prog.inits.idxOf? f = none) (hfn : D.prog.funcs[f]? = some fn)
    (witness : ∃ (w : World) (tape : Tape) (i : Input), w.os = os ∧ (w.forCall tape i).Shaped D.prog ∧ i.vars = [] ∧ Input.okWide D.prog (w.forCall tape i) .any w.heap.size f i ∧
      s.pre6 enc D.prog fn conds apart (w.forCall tape i).memory i.args ∧ a.holds D.prog (lone (Frame.enter D.prog f i.args .normal) [] (w.forCall tape i)))
    (hrow : laidOutB D.prog = true) (hmap : mapsRowed D.prog = true) (hfull : ∀ t e, t < D.prog.types.size → D.prog.underlying t = some (.slice e) → 0 < D.prog.cellsOf e) (hparams : ∀ t ∈ fn.params.toList, t < D.prog.types.size)
    (hvars : s.vars = []) (hrt : fn.resultTypes = #[rt]) (hb : D.prog.underlying rt = some .bool)
    (hspec : ∀ ds : List (DataW H), ds.length = fn.params.toList.length → s.fn H ds = { results := [.lit (.bool true)], args := ds })
    (run : ∀ (W : World) (base : Nat) (args : Array Value) (ds : List (DataW H)) (ps : List MemPlace),
      (∀ (j : Nat) t v, fn.params[j]? = some t → args[j]? = some v → Value.okWide D.prog W .any base t v) →
      DataW.TrodAll enc D.prog W 0 (fun _ => true) true fn.params.toList args.toList ds ps →
      ∃ n as H', callF X n f as [] = some (.bool true, H') ∧ ArgsRel (start W) (T0 W.heap.size) as args.toList) :
    ReturnsInHanded a D os f .any (s.pre6 enc D.prog fn conds apart) (s.post enc D.prog fn apart fresh handsOn again) := by
  refine returnsInHanded_of_change own started noInit hfn witness ?_
  intro W base args ds gs before hval hW _ _
  obtain ⟨p, q, hA, hV, _, _, _⟩ := id hW
  obtain ⟨n, as, H', h1, h2⟩ := run W base args ds p hval hA
  have hcalls := law_calls hC (GOk.none hG W) h1 h2
  rw [hX] at hcalls
  refine Calls.mono hcalls fun e W' he => ?_
  obtain ⟨he, hos, hout, hsame⟩ := he
  exact ⟨_, he, law_post hrow hmap hfull hparams hvars hrt hb hW (hspec ds (trodAll_length hA).2) hos hout hsame⟩

end

/-- all drawing regions of the program, at once -/
def drawsAll (C : Ctx) : Bool :=
  (List.range C.P.funcs.size).all fun f => match C.P.funcs[f]? with
    | some fn => match fn.body with
      | some c => drawsOk C f c
      | none => true
    | none => true

theorem ctxOk_of {C : Ctx} (mix : C.P.follows .mixedOrders = true) (h : drawsAll C = true) : CtxOk C where
  mix := mix
  draws := by
    intro f fn c hf hc
    have hlt : f < C.P.funcs.size := (Array.getElem?_eq_some_iff.1 hf).1
    have := List.all_eq_true.1 h f (List.mem_range.2 hlt)
    rw [hf] at this
    simp only [hc] at this
    exact this

def isTrue : Option (AV × Heap) → Bool
  | some (.bool true, _) => true
  | _ => false

def litVal : Lit → Value
  | .bool b => .bool b
  | .int k n => .int k n
  | .string b => .string ⟨⟨b⟩⟩
  | _ => undef

mutual
/-- a plain datum's cells -/
def cellsD : DataW Unit → List Value
  | .lit l => [litVal l]
  | .agg ps => cellsDs ps
  | _ => [undef]
def cellsDs : List (DataW Unit) → List Value
  | [] => []
  | d :: r => cellsD d ++ cellsDs r
end

/-- a world whose listed variables hold what is listed -/
noncomputable def laidWorld (P : Program) (os : Os) (laid : List (String × DataW Unit)) : World :=
  let w0 := World.holding P os ⟨#[], #[], []⟩
  { w0 with heap := laid.foldl (fun h x => match P.globalNamed x.1 with
      | some g => h.modify g fun
        | .cells _ t frozen => .cells (cellsD x.2).toArray t frozen
        | o => o
      | none => h) w0.heap }

end Go.AM

/- Package variables that are tables of integers: what a row lists is what the machine reads. -/
namespace Go.AM
open Go.Lib

/-- one variable's payload is what its block holds -/
def GOne (W : World) (g : Nat) (p : AV) : Prop := plen p ≠ 0 ∧ g < W.heap.size ∧ RP W (fun b => b < W.heap.size) p (fun j => W.cell? ⟨g, j, none⟩)

/-- a list of variables -/
def globF (L : List (Nat × AV)) (g : Nat) : Option AV := (L.find? fun x => x.1 == g).map (·.2)

end Go.AM

/- What is told with known calls: runs over a table of calls. -/
namespace Go.AM

section
variable {C : Ctx}

/-- the call tells r, whatever fuel is left over -/
def Ev1 (C : Ctx) (f : Nat) (args : List AV) (H : Heap) (r : AV × Heap) : Prop := ∃ n0, ∀ n, n0 ≤ n → callF C n f args H = some r

/-- what the table tells is so -/
def Below (C : Ctx) (T : Cf) : Prop := ∀ f args H r, T f args H = some r → Ev1 C f args H r

theorem step_ev {T : Cf} (hT : Below C T) {fr : Frame} {H : Heap} {o : Oper} {r : AV × Heap} (h : step C T fr H o = some r) : ∃ n0, ∀ n, n0 ≤ n → step C (callF C n) fr H o = some r := by
  obtain ⟨dst, op, type, pos, after, guard⟩ := o
  cases op <;> try exact ⟨0, fun _ _ => h⟩
  case makeFunc fn first caps => cases fn <;> exact ⟨0, fun _ _ => h⟩
  case call c =>
    simp only [step, callV] at h ⊢
    cases hc : c.callee with
    | builtin b => rw [hc] at h; exact ⟨0, fun _ _ => h⟩
    | value x =>
      rw [hc] at h
      simp only at h ⊢
      split at h
      · rename_i f caps he
        split at h
        · obtain ⟨n0, hn⟩ := hT _ _ _ _ h
          refine ⟨n0, fun n hl => ?_⟩
          rename_i hb
          rw [if_pos hb]
          exact hn n hl
        · cases h
      · cases h
    | invoke r n => rw [hc] at h; cases h

theorem out1_ev {T : Cf} (hT : Below C T) {nt : Nat} {ops : Array Oper} {o : Oper} {fr : Frame} {H : Heap} {r : AV × Heap} (h : out1 C T nt ops o fr H = some r) : ∃ n0, ∀ n, n0 ≤ n → out1 C (callF C n) nt ops o fr H = some r := by
  unfold out1 at h ⊢
  split at h
  · rename_i hd
    simp only [hd, if_true]
    split at h
    · exact step_ev hT h
    · exact ⟨0, fun _ _ => h⟩
    · cases h
  · cases h

theorem runOps_ev {T : Cf} (hT : Below C T) {nt : Nat} {ops : Array Oper} : ∀ {l : List Oper} {fr : Frame} {H : Heap} {r : Frame × Heap}, runOps C T nt ops l fr H = some r → ∃ n0, ∀ n, n0 ≤ n → runOps C (callF C n) nt ops l fr H = some r
  | [], fr, H, r, h => ⟨0, fun _ _ => h⟩
  | o :: l, fr, H, r, h => by
    rw [runOps_cons] at h
    split at h
    · rename_i v H1 hv
      obtain ⟨n0, h0⟩ := out1_ev hT hv
      obtain ⟨n1, h1⟩ := runOps_ev hT h
      refine ⟨max n0 n1, fun n hn => ?_⟩
      rw [runOps_cons, h0 n (by omega)]
      exact h1 n (by omega)
    · cases h

theorem runD_ev {T : Cf} (hT : Below C T) {nt : Nat} {ops : Array Oper} : ∀ {l : List Oper} {fr : Frame} {H : Heap} {r : Frame × Heap × List Mark}, runD C T nt ops l fr H = some r → ∃ n0, ∀ n, n0 ≤ n → runD C (callF C n) nt ops l fr H = some r
  | [], fr, H, r, h => ⟨0, fun _ _ => h⟩
  | o :: l, fr, H, r, h => by
    simp only [runD] at h
    split at h
    · rename_i v H1 hv
      split at h
      · rename_i fr' H2 ms hr
        obtain ⟨n0, h0⟩ := out1_ev hT hv
        obtain ⟨n1, h1⟩ := runD_ev hT hr
        refine ⟨max n0 n1, fun n hn => ?_⟩
        simp only [runD]
        rw [h0 n (by omega)]
        simp only
        rw [h1 n (by omega)]
        exact h
      · cases h
    · cases h

theorem exec_ev {T : Cf} (hT : Below C T) {f m k : Nat} : (c : Code) → ∀ {fr : Frame} {H : Heap} {out : Out}, exec C T f m k c fr H = some out → ∃ n0, ∀ n, n0 ≤ n → ∀ k', k ≤ k' → exec C (callF C n) f m k' c fr H = some out
  | .skip, fr, H, out, h => ⟨0, fun _ _ _ _ => h⟩
  | .region id ops draw, fr, H, out, h => by
    simp only [exec] at h ⊢
    split at h
    · rename_i hd
      simp only [hd, if_true]
      split at h
      · rename_i fr' H' ms hr
        obtain ⟨n0, h0⟩ := runD_ev hT hr
        refine ⟨n0, fun n hn k' _ => ?_⟩
        rw [h0 n hn]
        exact h
      · cases h
    · rename_i hd
      simp only [hd, Bool.false_eq_true, if_false]
      split at h
      · cases h
      · rename_i hd2
        simp only [hd2, Bool.false_eq_true, if_false]
        split at h
        · rename_i fr' H' hr
          obtain ⟨n0, h0⟩ := runOps_ev hT hr
          refine ⟨n0, fun n hn k' _ => ?_⟩
          rw [h0 n hn]
          exact h
        · cases h
  | .seq a b, fr, H, out, h => by
    simp only [exec] at h ⊢
    split at h
    · rename_i fr' H' ha
      obtain ⟨n0, h0⟩ := exec_ev hT a ha
      obtain ⟨n1, h1⟩ := exec_ev hT b h
      refine ⟨max n0 n1, fun n hn k' hk => ?_⟩
      rw [h0 n (by omega) k' hk]
      exact h1 n (by omega) k' hk
    · rename_i hne
      obtain ⟨n0, h0⟩ := exec_ev hT a h
      refine ⟨n0, fun n hn k' hk => ?_⟩
      rw [h0 n hn k' hk]
      obtain ⟨ex, fr', H'⟩ := out
      cases ex with
      | normal => exact absurd h (hne _ _)
      | exit id => rfl
      | ret => rfl
  | .cond c a b, fr, H, out, h => by
    simp only [exec] at h ⊢
    split at h
    · rename_i d hd
      cases d with
      | true => exact exec_ev hT a h
      | false => exact exec_ev hT b h
    · cases h
  | .block id c, fr, H, out, h => by
    simp only [exec] at h ⊢
    split at h
    · rename_i id' fr' H' hc
      obtain ⟨n0, h0⟩ := exec_ev hT c hc
      refine ⟨n0, fun n hn k' hk => ?_⟩
      rw [h0 n hn k' hk]
      exact h
    · rename_i hne
      obtain ⟨n0, h0⟩ := exec_ev hT c h
      refine ⟨n0, fun n hn k' hk => ?_⟩
      rw [h0 n hn k' hk]
      obtain ⟨ex, fr', H'⟩ := out
      cases ex with
      | normal => rfl
      | exit id => exact absurd h (hne _ _ _)
      | ret => rfl
  | .loop c, fr, H, out, h => by
    simp only [exec] at h ⊢
    have key : ∀ j, ∀ {fr : Frame} {H : Heap}, loopN (exec C T f m k c) j fr H = some out → ∃ n0, ∀ n, n0 ≤ n → ∀ k', k ≤ k' → ∀ j', j ≤ j' → loopN (exec C (callF C n) f m k' c) j' fr H = some out := by
      intro j
      induction j with
      | zero => intro fr H h; simp [loopN] at h
      | succ j ih =>
        intro fr H h
        simp only [loopN] at h
        split at h
        · rename_i fr' H' hc
          obtain ⟨n0, h0⟩ := exec_ev hT c hc
          obtain ⟨n1, h1⟩ := ih h
          refine ⟨max n0 n1, fun n hn k' hk j' hj => ?_⟩
          obtain ⟨j', rfl⟩ : ∃ i, j' = i + 1 := ⟨j' - 1, by omega⟩
          simp only [loopN]
          rw [h0 n (by omega) k' hk]
          exact h1 n (by omega) k' hk j' (by omega)
        · rename_i hne
          obtain ⟨n0, h0⟩ := exec_ev hT c h
          refine ⟨n0, fun n hn k' hk j' hj => ?_⟩
          obtain ⟨j', rfl⟩ : ∃ i, j' = i + 1 := ⟨j' - 1, by omega⟩
          simp only [loopN]
          rw [h0 n hn k' hk]
          obtain ⟨ex, fr', H'⟩ := out
          cases ex with
          | normal => exact absurd h (hne _ _)
          | exit id => rfl
          | ret => rfl
    obtain ⟨n0, h0⟩ := key k h
    exact ⟨n0, fun n hn k' hk => h0 n hn k' hk k' hk⟩
  | .exit id, fr, H, out, h => ⟨0, fun _ _ _ _ => h⟩
  | .ret, fr, H, out, h => ⟨0, fun _ _ _ _ => h⟩
  | .scope .., fr, H, out, h => by simp [exec] at h
  | .label .., fr, H, out, h => by simp [exec] at h
  | .goto .., fr, H, out, h => by simp [exec] at h
  | .refuse .., fr, H, out, h => by simp [exec] at h
  | .rangeFunc .., fr, H, out, h => by simp [exec] at h

theorem runBody_ev {T : Cf} (hT : Below C T) {k f : Nat} {args : List AV} {H : Heap} {r : AV × Heap} (h : runBody C T k f args H = some r) : ∃ n0, ∀ n, n0 ≤ n → runBody C (callF C n) n f args H = some r := by
  unfold runBody at h ⊢
  cases hF : C.P.funcs[f]? with
  | none => rw [hF] at h; cases h
  | some fn =>
    rw [hF] at h
    simp only at h ⊢
    cases hb : fn.body with
    | none => rw [hb] at h; cases h
    | some c =>
      rw [hb] at h
      simp only at h ⊢
      cases he : exec C T f H.length k c (numbered 0 args) H with
      | none => rw [he] at h; cases h
      | some out =>
        obtain ⟨n0, h0⟩ := exec_ev hT c he
        refine ⟨max n0 k, fun n hn => ?_⟩
        rw [h0 n (by omega) n (by omega)]
        rw [he] at h
        exact h

/-- a call whose body is run over a table -/
theorem enter_ev {T : Cf} (hT : Below C T) {k f : Nat} {args : List AV} {H : Heap} {r : AV × Heap} (h : enterV C (runBody C T k) f args H = some r) : Ev1 C f args H r := by
  unfold enterV at h
  split at h
  · cases h
  · rename_i as lents hl
    simp only at h
    split at h
    · rename_i hc
      split at h
      · cases h
      · rename_i v H1 hb
        obtain ⟨n0, h0⟩ := runBody_ev hT hb
        refine ⟨n0 + 1, fun n hn => ?_⟩
        obtain ⟨n, rfl⟩ : ∃ i, n = i + 1 := ⟨n - 1, by omega⟩
        show enterV C (runBody C (callF C n) n) f args H = some r
        unfold enterV
        rw [hl]
        simp only
        rw [if_pos hc, h0 n (by omega)]
        exact h
    · cases h

theorem Below.none : Below C (fun _ _ _ => none) := by intro f args H r h; cases h

/-- calls out of the table, the others run -/
def callT (C : Ctx) (T : Cf) : Nat → Cf
  | 0, f, args, H => T f args H
  | n + 1, f, args, H => match T f args H with
    | some r => some r
    | none => enterV C (runBody C (callT C T n) n) f args H

theorem callT_below {T : Cf} (hT : Below C T) : ∀ n, Below C (callT C T n)
  | 0 => hT
  | n + 1 => by
    intro f args H r h
    simp only [callT] at h
    split at h
    · rename_i r' hr
      rw [← Option.some.inj h]
      exact hT _ _ _ _ hr
    · exact enter_ev (callT_below hT n) h

theorem loopN_mono {b b' : Frame → Heap → Option Out} (hb : ∀ fr H out, b fr H = some out → b' fr H = some out) : ∀ {j j' : Nat} {fr : Frame} {H : Heap} {out : Out}, j ≤ j' → loopN b j fr H = some out → loopN b' j' fr H = some out
  | 0, j', fr, H, out, _, h => by simp [loopN] at h
  | j + 1, j', fr, H, out, hj, h => by
    obtain ⟨j', rfl⟩ : ∃ i, j' = i + 1 := ⟨j' - 1, by omega⟩
    simp only [loopN] at h ⊢
    split at h
    · rename_i fr' H' hc
      rw [hb _ _ _ hc]
      exact loopN_mono hb (by omega) h
    · rename_i hne
      rw [hb _ _ _ h]
      obtain ⟨ex, fr', H'⟩ := out
      cases ex with
      | normal => exact absurd h (hne _ _)
      | exit id => rfl
      | ret => rfl

theorem exec_mono {T : Cf} {f m k k' : Nat} (hk : k ≤ k') : (c : Code) → ∀ (fr : Frame) (H : Heap) (out : Out), exec C T f m k c fr H = some out → exec C T f m k' c fr H = some out
  | .skip, fr, H, out, h => h
  | .region id ops draw, fr, H, out, h => h
  | .seq a b, fr, H, out, h => by
    simp only [exec] at h ⊢
    split at h
    · rename_i fr' H' ha
      rw [exec_mono hk a _ _ _ ha]
      exact exec_mono hk b _ _ _ h
    · rename_i hne
      rw [exec_mono hk a _ _ _ h]
      obtain ⟨ex, fr', H'⟩ := out
      cases ex with
      | normal => exact absurd h (hne _ _)
      | exit id => rfl
      | ret => rfl
  | .cond c a b, fr, H, out, h => by
    simp only [exec] at h ⊢
    split at h
    · rename_i d hd
      cases d with
      | true => exact exec_mono hk a _ _ _ h
      | false => exact exec_mono hk b _ _ _ h
    · cases h
  | .block id c, fr, H, out, h => by
    simp only [exec] at h ⊢
    split at h
    · rename_i id' fr' H' hc
      rw [exec_mono hk c _ _ _ hc]
      exact h
    · rename_i hne
      rw [exec_mono hk c _ _ _ h]
      obtain ⟨ex, fr', H'⟩ := out
      cases ex with
      | normal => rfl
      | exit id => exact absurd h (hne _ _ _)
      | ret => rfl
  | .loop c, fr, H, out, h => by
    simp only [exec] at h ⊢
    exact loopN_mono (exec_mono hk c) hk h
  | .exit id, fr, H, out, h => h
  | .ret, fr, H, out, h => h
  | .scope .., fr, H, out, h => by simp [exec] at h
  | .label .., fr, H, out, h => by simp [exec] at h
  | .goto .., fr, H, out, h => by simp [exec] at h
  | .refuse .., fr, H, out, h => by simp [exec] at h
  | .rangeFunc .., fr, H, out, h => by simp [exec] at h

/-- code that tells out, with some fuel -/
def Run (C : Ctx) (T : Cf) (f m : Nat) (c : Code) (fr : Frame) (H : Heap) (out : Out) : Prop := ∃ k, exec C T f m k c fr H = some out

variable {T : Cf} {f m : Nat} {fr fr' : Frame} {H H' : Heap} {out : Out}

theorem Run.seq {a b : Code} (h : Run C T f m a fr H ⟨.normal, fr', H'⟩) (h' : Run C T f m b fr' H' out) : Run C T f m (.seq a b) fr H out := by
  obtain ⟨k0, h0⟩ := h
  obtain ⟨k1, h1⟩ := h'
  refine ⟨max k0 k1, ?_⟩
  simp only [exec]
  rw [exec_mono (Nat.le_max_left k0 k1) a _ _ _ h0]
  exact exec_mono (Nat.le_max_right k0 k1) b _ _ _ h1

theorem Run.seq_out {a b : Code} (h : Run C T f m a fr H out) (hne : out.ex ≠ .normal) : Run C T f m (.seq a b) fr H out := by
  obtain ⟨k0, h0⟩ := h
  refine ⟨k0, ?_⟩
  simp only [exec]
  rw [h0]
  obtain ⟨ex, fr', H'⟩ := out
  cases ex with
  | normal => exact absurd rfl hne
  | exit id => rfl
  | ret => rfl

theorem Run.cond {c : Operand} {a b : Code} {d : Bool} (hc : evalO C fr c = .bool d) (h : Run C T f m (if d then a else b) fr H out) : Run C T f m (.cond c a b) fr H out := by
  obtain ⟨k0, h0⟩ := h
  refine ⟨k0, ?_⟩
  simp only [exec]
  rw [hc]
  cases d <;> exact h0

/-- a block left by its own exit -/
theorem Run.block_exit {id : Nat} {c : Code} (h : Run C T f m c fr H ⟨.exit id, fr', H'⟩) : Run C T f m (.block id c) fr H ⟨.normal, fr', H'⟩ := by
  obtain ⟨k0, h0⟩ := h
  refine ⟨k0, ?_⟩
  simp only [exec]
  rw [h0]
  simp

/-- a block left otherwise -/
theorem Run.block {id : Nat} {c : Code} (h : Run C T f m c fr H out) (hne : out.ex ≠ .exit id) : Run C T f m (.block id c) fr H out := by
  obtain ⟨k0, h0⟩ := h
  refine ⟨k0, ?_⟩
  simp only [exec]
  rw [h0]
  obtain ⟨ex, fr', H'⟩ := out
  cases ex with
  | normal => rfl
  | exit id' =>
    have : id' ≠ id := fun e => hne (by rw [e])
    simp [this]
  | ret => rfl

theorem Run.loop_step {c : Code} (h : Run C T f m c fr H ⟨.normal, fr', H'⟩) (h' : Run C T f m (.loop c) fr' H' out) : Run C T f m (.loop c) fr H out := by
  obtain ⟨k0, h0⟩ := h
  obtain ⟨k1, h1⟩ := h'
  refine ⟨max k0 k1 + 1, ?_⟩
  simp only [exec] at h1 ⊢
  rw [loopN, exec_mono (show k0 ≤ max k0 k1 + 1 by omega) c _ _ _ h0]
  exact loopN_mono (exec_mono (show k1 ≤ max k0 k1 + 1 by omega) c) (by omega) h1

theorem Run.loop_out {c : Code} (h : Run C T f m c fr H out) (hne : out.ex ≠ .normal) : Run C T f m (.loop c) fr H out := by
  obtain ⟨k0, h0⟩ := h
  refine ⟨k0 + 1, ?_⟩
  simp only [exec]
  rw [loopN, exec_mono (show k0 ≤ k0 + 1 by omega) c _ _ _ h0]
  obtain ⟨ex, fr', H'⟩ := out
  cases ex with
  | normal => exact absurd rfl hne
  | exit id => rfl
  | ret => rfl

/-- a loop by its states -/
theorem Run.loop_rule {c : Code} {σ : Type} (I : σ → Prop) (fr : σ → Frame) (H : σ → Heap) (out : σ → Out) (μ : σ → Nat)
    (step : ∀ s, I s → (∃ s', I s' ∧ Run C T f m c (fr s) (H s) ⟨.normal, fr s', H s'⟩ ∧ out s' = out s ∧ μ s' < μ s) ∨ (Run C T f m c (fr s) (H s) (out s) ∧ (out s).ex ≠ .normal)) (s : σ) (hs : I s) :
    Run C T f m (.loop c) (fr s) (H s) (out s) := by
  generalize hn : μ s = n
  induction n using Nat.strongRecOn generalizing s with
  | _ n ih =>
    rcases step s hs with ⟨s', h0, h1, h2, h3⟩ | ⟨h1, h2⟩
    · rw [← h2]
      exact Run.loop_step h1 (ih (μ s') (by omega) s' h0 rfl)
    · exact Run.loop_out h1 h2

/-- a call, its body told -/
theorem Ev1.of {T : Cf} (hT : Below C T) {f : Nat} {args : List AV} {H : Heap} {r : AV × Heap} {fn : Func} {c : Code} {as : List AV} {lents : List Lent} {out : Out} {l : List AV}
    (hF : C.P.funcs[f]? = some fn) (hb : fn.body = some c) (hl : lendArgs C f H 0 args = some (as, lents))
    (hc : ((lents.all fun x => disjoint x.objs (reach H reachFuel (idsL as) [])) && decide (as.length + 1 < gtag)) = true)
    (he : Run C T f ((reach H reachFuel (idsL as) []).length) c (numbered 0 (coerce C (renL (intoN H (reach H reachFuel (idsL as) [])) (fun t => t) as) (paramsOf C f)))
      ((reach H reachFuel (idsL as) []).map fun o => (obAt H o).map (renObj (intoN H (reach H reachFuel (idsL as) [])) (fun _ => as.length + 1) 0)) out)
    (hex : out.ex = .normal ∨ out.ex = .ret) (hr : resultsV C out.fr out.H fn.results.toList = some l)
    (hw : wrap H (reach H reachFuel (idsL as) []) (lents ++ [⟨[], tagsObjs ((reach H reachFuel (idsL as) []).map (obAt H))⟩]) (resultV l) out.H = some r) : Ev1 C f args H r := by
  obtain ⟨k, hk⟩ := he
  refine enter_ev hT (k := k) ?_
  unfold enterV
  rw [hl]
  simp only
  rw [if_pos hc]
  have : runBody C T k f (coerce C (renL (intoN H (reach H reachFuel (idsL as) [])) (fun t => t) as) (paramsOf C f))
      ((reach H reachFuel (idsL as) []).map fun o => (obAt H o).map (renObj (intoN H (reach H reachFuel (idsL as) [])) (fun _ => as.length + 1) 0)) = some (resultV l, out.H) := by
    unfold runBody
    rw [hF]
    simp only
    rw [hb]
    simp only [List.length_map]
    rw [hk]
    obtain ⟨ex, fr', H'⟩ := out
    simp only at hex hr ⊢
    rcases hex with rfl | rfl <;> simp [hr]
  rw [this]
  exact hw

theorem lend1_free {H : Heap} {t : Nat} {a : AV} (hi : ids a = []) : lend1 H t a = lend1 [] t a ∧ ∀ r, lend1 H t a = some r → r.2.objs = [] ∧ ids r.1 = [] := by
  cases a
  case sl o off len g => simp [ids] at hi
  case ro c p t' =>
    refine ⟨rfl, fun r h => ?_⟩
    simp only [lend1, Option.some.injEq] at h
    subst h
    exact ⟨rfl, rfl⟩
  case rptr p i f t' =>
    refine ⟨rfl, fun r h => ?_⟩
    simp only [lend1, Option.some.injEq] at h
    subst h
    exact ⟨rfl, rfl⟩
  all_goals
    refine ⟨rfl, fun r h => ?_⟩
    simp only [lend1] at h
    split at h
    · simp only [Option.some.injEq] at h
      subst h
      exact ⟨rfl, hi⟩
    · cases h

theorem lendL_free {H : Heap} {t : Nat} : ∀ {l : List AV}, idsL l = [] → lendL H t l = lendL [] t l ∧ ∀ r, lendL H t l = some r → r.2.objs = [] ∧ idsL r.1 = []
  | [], _ => ⟨rfl, fun r h => by simp only [lendL, Option.some.injEq] at h; subst h; exact ⟨rfl, rfl⟩⟩
  | a :: l, hi => by
    simp only [idsL, List.append_eq_nil_iff] at hi
    obtain ⟨h1, h2⟩ := lend1_free (H := H) (t := t) hi.1
    obtain ⟨h3, h4⟩ := lendL_free (H := H) (t := t) hi.2
    refine ⟨by simp only [lendL, h1, h3], fun r h => ?_⟩
    simp only [lendL] at h
    split at h
    · rename_i a' x r' y e1 e2
      simp only [Option.some.injEq] at h
      subst h
      obtain ⟨q1, q2⟩ := h2 _ e1
      obtain ⟨q3, q4⟩ := h4 _ e2
      exact ⟨by simp only at q1 q3 ⊢; rw [q1, q3]; rfl, by simp only [idsL] at q2 q4 ⊢; rw [q2, q4]; rfl⟩
    · cases h

theorem lendV_free {H : Heap} {t : Nat} {a : AV} (hi : ids a = []) : lendV H t a = lendV [] t a ∧ ∀ r, lendV H t a = some r → r.2.objs = [] ∧ ids r.1 = [] := by
  unfold lendV
  split
  · rename_i l
    obtain ⟨h1, h2⟩ := lendL_free (H := H) (t := t) (l := l) (by simpa [ids] using hi)
    refine ⟨by rw [h1], fun r h => ?_⟩
    cases hl : lendL H t l with
    | none => rw [hl] at h; cases h
    | some z =>
      rw [hl] at h
      simp only [Option.map_some, Option.some.injEq] at h
      subst h
      obtain ⟨q1, q2⟩ := h2 _ hl
      exact ⟨q1, by simpa [ids] using q2⟩
  · rename_i f l
    obtain ⟨h1, h2⟩ := lendL_free (H := H) (t := t) (l := l) (by simpa [ids] using hi)
    refine ⟨by rw [h1], fun r h => ?_⟩
    cases hl : lendL H t l with
    | none => rw [hl] at h; cases h
    | some z =>
      rw [hl] at h
      simp only [Option.map_some, Option.some.injEq] at h
      subst h
      obtain ⟨q1, q2⟩ := h2 _ hl
      exact ⟨q1, by simpa [ids] using q2⟩
  · exact lend1_free hi

theorem lendArgs_free {f : Nat} {H : Heap} : ∀ {args : List AV} {i : Nat}, idsL args = [] → lendArgs C f H i args = lendArgs C f [] i args ∧ ∀ r, lendArgs C f H i args = some r → (∀ x ∈ r.2, x.objs = []) ∧ idsL r.1 = []
  | [], i, _ => ⟨rfl, fun r h => by simp only [lendArgs, Option.some.injEq] at h; subst h; simp [idsL]⟩
  | a :: l, i, hi => by
    simp only [idsL, List.append_eq_nil_iff] at hi
    obtain ⟨h1, h2⟩ := lendV_free (H := H) (t := i + 1) hi.1
    obtain ⟨h3, h4⟩ := lendArgs_free (f := f) (H := H) (i := i + 1) hi.2
    have e : ∀ H : Heap, lendArgs C f H i (a :: l) = match lendV H (i + 1) a, lendArgs C f H (i + 1) l with
        | some (a', x), some (r', y) => some (a' :: r', x :: y)
        | _, _ => none := by
      intro H
      clear h1 h2 h3 h4
      cases a
      case sl o off len g => simp [ids] at hi
      all_goals
        simp only [lendArgs]
        generalize lendV H (i + 1) _ = x
        generalize lendArgs C f H (i + 1) l = y
        cases C.rw f i <;> rcases x with _ | ⟨_, _⟩ <;> rcases y with _ | ⟨_, _⟩ <;> rfl
    rw [e, e, h1, h3]
    refine ⟨rfl, fun r h => ?_⟩
    rw [← h1, ← h3] at h
    split at h
    · rename_i a' x r' y e1 e2
      simp only [Option.some.injEq] at h
      subst h
      obtain ⟨q1, q2⟩ := h2 _ e1
      obtain ⟨q3, q4⟩ := h4 _ e2
      refine ⟨fun z hz => ?_, by simp only [idsL] at q2 q4 ⊢; rw [q2, q4]; rfl⟩
      rcases List.mem_cons.1 hz with rfl | hz
      · exact q1
      · exact q3 z hz
    · cases h

theorem reach_nil (H : Heap) (acc : List Nat) : ∀ n, reach H n [] acc = acc
  | 0 => rfl
  | _ + 1 => rfl

/-- names moved on by n -/
def shiftN (n : Nat) (o g : Nat) : Option (Nat × Nat) := some (o + n, g)
def shiftV (n : Nat) (v : AV) : AV := ren (shiftN n) (fun t => t) v
def shiftH (n : Nat) (N : Heap) : Heap := N.map fun x => x.map fun ob => renObj (shiftN n) (fun t => t) ob.g ob

mutual
theorem ren_shift {ρ ρ' : Nat → Nat → Option (Nat × Nat)} {τ : Nat → Nat} {n : Nat} (h : ∀ o g, ρ' o g = (ρ o g).map fun x => (x.1 + n, x.2)) : (v : AV) → ren ρ' τ v = shiftV n (ren ρ τ v)
  | .ptr o i f g => by
    simp only [ren, h]
    rcases ρ o g with _ | ⟨a, b⟩ <;> simp [shiftV, ren, shiftN]
  | .sl o off len g => by
    simp only [ren, h]
    rcases ρ o g with _ | ⟨a, b⟩ <;> simp [shiftV, ren, shiftN]
  | .map o g => by
    simp only [ren, h]
    rcases ρ o g with _ | ⟨a, b⟩ <;> simp [shiftV, ren, shiftN]
  | .ro c p t => by simp [ren, shiftV]
  | .rptr p i f t => by simp [ren, shiftV]
  | .agg p => by simp only [ren, shiftV, ren_shift h p]
  | .tup l => by simp only [ren, shiftV, renL_shift h l]
  | .fn f l => by simp only [ren, shiftV, renL_shift h l]
  | .pc l => by simp only [ren, shiftV, renL_shift h l]
  | .pr e l => by simp only [ren, shiftV, renL_shift h l]
  | .pm l => by simp only [ren, shiftV, renL_shift h l]
  | .top => by simp [ren, shiftV]
  | .bool _ => by simp [ren, shiftV]
  | .int _ _ => by simp [ren, shiftV]
  | .str _ => by simp [ren, shiftV]
  | .nilptr => by simp [ren, shiftV]
  | .nilfn => by simp [ren, shiftV]
  | .nilmap => by simp [ren, shiftV]
  | .pn => by simp [ren, shiftV]
  | .pb _ => by simp [ren, shiftV]
  | .pi _ _ => by simp [ren, shiftV]
theorem renL_shift {ρ ρ' : Nat → Nat → Option (Nat × Nat)} {τ : Nat → Nat} {n : Nat} (h : ∀ o g, ρ' o g = (ρ o g).map fun x => (x.1 + n, x.2)) : (l : List AV) → renL ρ' τ l = renL (shiftN n) (fun t => t) (renL ρ τ l)
  | [] => rfl
  | a :: r => by
    have h1 := ren_shift (τ := τ) h a
    simp only [shiftV] at h1
    simp only [renL, h1, renL_shift h r]
end

theorem idxOf_shift : ∀ (l : List Nat) (o i n : Nat), idxOf l o (i + n) = (idxOf l o i).map (· + n)
  | [], _, _, _ => rfl
  | a :: r, o, i, n => by
    simp only [idxOf]
    split
    · rfl
    · rw [show i + n + 1 = (i + 1) + n by omega, idxOf_shift r o (i + 1) n]

/-- a call that is handed no object does the same in any heap -/
theorem Ev1.frame {f : Nat} {args : List AV} {v : AV} {N : Heap} (h : Ev1 C f args [] (v, N)) (hi : idsL args = []) (H : Heap) : Ev1 C f args H (shiftV H.length v, H ++ shiftH H.length N) := by
  obtain ⟨n0, h0⟩ := h
  refine ⟨n0 + 1, fun n hn => ?_⟩
  obtain ⟨n, rfl⟩ : ∃ i, n = i + 1 := ⟨n - 1, by omega⟩
  have h1 := h0 (n + 1) (by omega)
  simp only [callF, enterV] at h1 ⊢
  obtain ⟨e1, e2⟩ := lendArgs_free (C := C) (f := f) (H := H) (i := 0) hi
  rw [e1]
  split at h1
  · cases h1
  · rename_i as lents hl
    obtain ⟨e3, e4⟩ := e2 _ (e1.trans hl)
    simp only at e3 e4 h1 ⊢
    rw [e4] at h1 ⊢
    simp only [reach_nil, List.map_nil, List.length_nil] at h1 ⊢
    have hren : ∀ (H H' : Heap) (l : List AV), renL (intoN H []) (fun t => t) l = renL (intoN H' []) (fun t => t) l := by
      intro H H' l
      have : intoN H [] = intoN H' [] := by
        funext o g
        unfold intoN
        split <;> split <;> simp [idxOf]
      rw [this]
    rw [hren H []]
    split at h1
    · rename_i hc
      rw [if_pos hc]
      split at h1
      · cases h1
      · rename_i u H1 hb
        unfold wrap at h1 ⊢
        simp only [List.length_nil, List.range_zero, List.nil_append, List.map_nil, tagsObjs, List.append_nil] at h1 ⊢
        split at h1
        · rename_i hu
          rw [if_pos hu]
          generalize (List.filter (fun o => decide (0 ≤ o)) (reach H1 reachFuel (ids u) [])) = new at h1 ⊢
          have hrho : ∀ o g, backN H [] new H1 o g = (backN [] [] new H1 o g).map fun x => (x.1 + H.length, x.2) := by
            intro o g
            unfold backN
            split
            · have := idxOf_shift new o 0 H.length
              rw [Nat.zero_add] at this
              simp [this, Option.map_map, Function.comp_def]
            · rfl
          have hgone : ∀ t, goneOf (lents ++ [⟨[], []⟩]) t = [] := by
            intro t
            unfold goneOf
            split
            · rfl
            · split
              · rename_i x hx
                rcases List.mem_append.1 (List.mem_of_getElem? hx) with hx | hx
                · exact e3 x hx
                · simp only [List.mem_singleton] at hx
                  rw [hx]
              · rfl
          have hfl : ∀ l : List Nat, l.flatMap (goneOf (lents ++ [⟨[], []⟩])) = [] := fun l => by simp [hgone]
          rw [hfl] at h1 ⊢
          simp only [strike, putBack, List.nil_append, Option.some.injEq, Prod.mk.injEq] at h1 ⊢
          obtain ⟨h2, h3⟩ := h1
          refine ⟨by rw [← h2]; exact ren_shift hrho u, ?_⟩
          rw [← h3]
          congr 1
          simp only [shiftH, List.map_map]
          refine List.map_congr_left fun o _ => ?_
          simp only [Function.comp]
          cases obAt H1 o with
          | none => rfl
          | some ob =>
            simp only [Option.map_some, renObj, Option.some.injEq]
            have := ren_shift (τ := backT (lents ++ [⟨[], []⟩])) hrho ob.p
            simp only [shiftV] at this
            rw [this]
        · cases h1
    · cases h1

end

end Go.AM

/- Tables of calls that were run once. -/
namespace Go.AM

/-- a call and what it tells, in an empty heap -/
structure Row1 where
  f : Nat
  args : List AV
  res : AV
  N : Heap

def tabF (L : List Row1) : Cf := fun f args H =>
  match L.find? (fun e => e.f == f && eqL e.args args) with
  | some e => some (shiftV H.length e.res, H ++ shiftH H.length e.N)
  | none => none

def RowsOk (C : Ctx) (L : List Row1) : Prop := ∀ e ∈ L, Ev1 C e.f e.args [] (e.res, e.N) ∧ idsL e.args = []

theorem RowsOk.nil {C : Ctx} : RowsOk C [] := by intro e h; simp at h

/-- one call more, run over the table and the rest of the known ones -/
def rowRun (C : Ctx) (T : Cf) (n : Nat) (e : Row1) : Bool :=
  (idsL e.args).isEmpty && (match enterV C (runBody C (callT C T n) n) e.f e.args [] with
    | some (v, N) => eqAV v e.res && eqH N e.N
    | none => false)

theorem RowsOk.cons {C : Ctx} {T : Cf} (hT : Below C T) {L : List Row1} (hL : RowsOk C L) {n : Nat} {e : Row1} (h : rowRun C T n e = true) : RowsOk C (e :: L) := by
  intro x hx
  rcases List.mem_cons.1 hx with rfl | hx
  · unfold rowRun at h
    simp only [Bool.and_eq_true, List.isEmpty_iff] at h
    refine ⟨?_, h.1⟩
    have h2 := h.2
    split at h2
    · rename_i v N hv
      simp only [Bool.and_eq_true] at h2
      rw [← eqAV_eq _ _ h2.1, ← eqH_eq h2.2]
      exact enter_ev (callT_below hT n) hv
    · cases h2
  · exact hL x hx

/-- either table -/
def orT (T T' : Cf) : Cf := fun f args H => match T f args H with
  | some r => some r
  | none => T' f args H

end Go.AM

/- Calls on plain arguments: slices that are only read, numbers, bools, strings; what they tell is plain, or a new slice. -/
namespace Go.AM

/-- what a slice that is lent reads as -/
def payOf (H : Heap) : AV → Option AV
  | .ro _ p _ => some p
  | .sl o off len g => match live H o g with
    | some ob => if ob.ids then none else psub ob.p off len
    | none => none
  | _ => none

theorem lend_pay {H : Heap} {t : Nat} {a p : AV} (h : payOf H a = some p) : ∃ c x, lendV H t a = some (.ro c p t, x) := by
  cases a <;> simp only [payOf, reduceCtorEq] at h
  case ro c q t' =>
    simp only [Option.some.injEq] at h
    subst h
    exact ⟨c, _, rfl⟩
  case sl o off len g =>
    split at h
    · rename_i ob hl
      split at h
      · cases h
      · rename_i hi
        exact ⟨if ob.z = 0 ∧ plen ob.p = 0 then 0 else 2, ⟨[o], [ob.tg]⟩, by simp [lendV, lend1, hl, hi, h]⟩
    · cases h

/-- a value that nothing leads out of -/
def flatV : AV → Bool
  | .bool _ | .int _ _ | .str _ | .nilptr | .nilfn | .nilmap => true
  | .agg (.pb _) | .agg (.pi _ _) => true
  | _ => false

theorem flat_lend {H : Heap} {t : Nat} {a : AV} (h : flatV a = true) : lendV H t a = some (a, ⟨[], []⟩) := by
  cases a <;> simp only [flatV, Bool.false_eq_true] at h <;> try rfl
  case agg p => cases p <;> simp only [flatV, Bool.false_eq_true] at h <;> rfl

theorem flat_ids {a : AV} (h : flatV a = true) : ids a = [] ∧ tags a = [] := by
  cases a <;> simp only [flatV, Bool.false_eq_true] at h <;> try exact ⟨rfl, rfl⟩
  case agg p => cases p <;> simp only [flatV, Bool.false_eq_true] at h <;> exact ⟨rfl, rfl⟩

/-- the address of a field that lies off cells behind -/
def faV (H : Heap) (x : AV) (off : Nat) : Option AV :=
  match x with
  | .ptr o i f g => match live H o g with | some ob => some (shiftBy ob.p o i f g off) | none => none
  | .rptr p i f t => some (shiftRo p i f t off)
  | _ => none

def fvV (C : Ctx) (x : AV) (off ty : Nat) : Option AV :=
  match x with
  | .agg (.pc l) =>
    if isAggT C ty then
      if ((l.drop off).take (sizeT C ty)).length = sizeT C ty then (mkAgg C ty ((l.drop off).take (sizeT C ty))).map .agg else none
    else if okT C ty then l[off]? else none
  | _ => none

theorem fieldAddr_of {C : Ctx} {s : TypeId} {n off : Nat} {ty : TypeId} (h : ((fieldsOf C s)[n]?).map (fun fd => (fd.offset, fd.type)) = some (off, ty)) (hs : (sizeT C ty == 0) = false) (H : Heap) (x : AV) :
    fieldAddrV C H s x n = faV H x off := by
  cases hf : (fieldsOf C s)[n]? with
  | none => rw [hf] at h; cases h
  | some fd =>
    rw [hf] at h
    simp only [Option.map_some, Option.some.injEq, Prod.mk.injEq] at h
    obtain ⟨rfl, rfl⟩ := h
    have : ¬ sizeT C fd.type = 0 := by simpa using hs
    unfold fieldAddrV faV
    rw [hf]
    simp only [if_neg this]
    cases x <;> rfl

theorem field_of {C : Ctx} {s : TypeId} {n off : Nat} {ty : TypeId} (h : ((fieldsOf C s)[n]?).map (fun fd => (fd.offset, fd.type)) = some (off, ty)) (x : AV) :
    fieldV C s x n = fvV C x off ty := by
  cases hf : (fieldsOf C s)[n]? with
  | none => rw [hf] at h; cases h
  | some fd =>
    rw [hf] at h
    simp only [Option.map_some, Option.some.injEq, Prod.mk.injEq] at h
    obtain ⟨rfl, rfl⟩ := h
    unfold fieldV fvV
    rw [hf]
    cases x <;> try rfl
    case agg p => cases p <;> rfl

section
variable {C : Ctx} {f : Nat} {H : Heap}

theorem args_nil (i : Nat) : lendArgs C f H i [] = some ([], []) := rfl

theorem args_pay {i : Nat} {a p : AV} {r as : List AV} {xs : List Lent} (hrw : C.rw f i = false) (h : payOf H a = some p) (hr : lendArgs C f H (i + 1) r = some (as, xs)) :
    ∃ c x, lendArgs C f H i (a :: r) = some (.ro c p (i + 1) :: as, x :: xs) := by
  obtain ⟨c, x, hx⟩ := lend_pay (t := i + 1) h
  exact ⟨c, x, by simp only [lendArgs, hrw, hx, hr]⟩

theorem args_flat {i : Nat} {a : AV} {r as : List AV} {xs : List Lent} (hrw : C.rw f i = false) (h : flatV a = true) (hr : lendArgs C f H (i + 1) r = some (as, xs)) :
    lendArgs C f H i (a :: r) = some (a :: as, ⟨[], []⟩ :: xs) := by
  simp only [lendArgs, hrw, flat_lend h, hr]

theorem reach_none (H : Heap) : reach H reachFuel [] [] = [] := reach_nil H [] reachFuel

mutual
theorem ren_flat {ρ : Nat → Nat → Option (Nat × Nat)} {τ : Nat → Nat} : (v : AV) → ids v = [] → (∀ t ∈ tags v, τ t = t) → ren ρ τ v = v
  | .ptr .., h, _ => by simp [ids] at h
  | .sl .., h, _ => by simp [ids] at h
  | .map .., h, _ => by simp [ids] at h
  | .ro c p t, _, ht => by simp only [ren, ht t (by simp [tags])]
  | .rptr p i f t, _, ht => by simp only [ren, ht t (by simp [tags])]
  | .agg p, h, ht => by simp only [ids] at h; simp only [tags] at ht; simp only [ren, ren_flat p h ht]
  | .tup l, h, ht => by simp only [ids] at h; simp only [tags] at ht; simp only [ren, renL_flat l h ht]
  | .fn f l, h, ht => by simp only [ids] at h; simp only [tags] at ht; simp only [ren, renL_flat l h ht]
  | .pc l, h, ht => by simp only [ids] at h; simp only [tags] at ht; simp only [ren, renL_flat l h ht]
  | .pr e l, h, ht => by simp only [ids] at h; simp only [tags] at ht; simp only [ren, renL_flat l h ht]
  | .pm l, h, ht => by simp only [ids] at h; simp only [tags] at ht; simp only [ren, renL_flat l h ht]
  | .top, _, _ => rfl
  | .bool _, _, _ => rfl
  | .int _ _, _, _ => rfl
  | .str _, _, _ => rfl
  | .nilptr, _, _ => rfl
  | .nilfn, _, _ => rfl
  | .nilmap, _, _ => rfl
  | .pn, _, _ => rfl
  | .pb _, _, _ => rfl
  | .pi _ _, _, _ => rfl
theorem renL_flat {ρ : Nat → Nat → Option (Nat × Nat)} {τ : Nat → Nat} : (l : List AV) → idsL l = [] → (∀ t ∈ tagsL l, τ t = t) → renL ρ τ l = l
  | [], _, _ => rfl
  | a :: r, h, ht => by
    simp only [idsL, List.append_eq_nil_iff] at h
    simp only [tagsL, List.mem_append] at ht
    simp only [renL, ren_flat a h.1 (fun t h' => ht t (.inl h')), renL_flat r h.2 (fun t h' => ht t (.inr h'))]
end

mutual
theorem ren_same {ρ ρ' : Nat → Nat → Option (Nat × Nat)} {τ τ' : Nat → Nat} : (v : AV) → (∀ o g, o ∈ ids v → ρ o g = ρ' o g) → (∀ t ∈ tags v, τ t = τ' t) → ren ρ τ v = ren ρ' τ' v
  | .ptr o i f g, h, _ => by simp only [ren, h o g (by simp [ids])]
  | .sl o a b g, h, _ => by simp only [ren, h o g (by simp [ids])]
  | .map o g, h, _ => by simp only [ren, h o g (by simp [ids])]
  | .ro c p t, _, ht => by simp only [ren, ht t (by simp [tags])]
  | .rptr p i f t, _, ht => by simp only [ren, ht t (by simp [tags])]
  | .agg p, h, ht => by simp only [ids] at h; simp only [tags] at ht; simp only [ren, ren_same p h ht]
  | .tup l, h, ht => by simp only [ids] at h; simp only [tags] at ht; simp only [ren, renL_same l h ht]
  | .fn f l, h, ht => by simp only [ids] at h; simp only [tags] at ht; simp only [ren, renL_same l h ht]
  | .pc l, h, ht => by simp only [ids] at h; simp only [tags] at ht; simp only [ren, renL_same l h ht]
  | .pr e l, h, ht => by simp only [ids] at h; simp only [tags] at ht; simp only [ren, renL_same l h ht]
  | .pm l, h, ht => by simp only [ids] at h; simp only [tags] at ht; simp only [ren, renL_same l h ht]
  | .top, _, _ => rfl
  | .bool _, _, _ => rfl
  | .int _ _, _, _ => rfl
  | .str _, _, _ => rfl
  | .nilptr, _, _ => rfl
  | .nilfn, _, _ => rfl
  | .nilmap, _, _ => rfl
  | .pn, _, _ => rfl
  | .pb _, _, _ => rfl
  | .pi _ _, _, _ => rfl
theorem renL_same {ρ ρ' : Nat → Nat → Option (Nat × Nat)} {τ τ' : Nat → Nat} : (l : List AV) → (∀ o g, o ∈ idsL l → ρ o g = ρ' o g) → (∀ t ∈ tagsL l, τ t = τ' t) → renL ρ τ l = renL ρ' τ' l
  | [], _, _ => rfl
  | a :: r, h, ht => by
    simp only [idsL, List.mem_append] at h
    simp only [tagsL, List.mem_append] at ht
    simp only [renL, ren_same a (fun o g h' => h o g (.inl h')) (fun t h' => ht t (.inl h')), renL_same r (fun o g h' => h o g (.inr h')) (fun t h' => ht t (.inr h'))]
end

theorem disjoint_nil (l : List Nat) : disjoint l [] = true := disjoint_iff.2 fun _ _ h => by simp at h

/-- what comes back where nothing was handed over, and nothing is left -/
theorem wrap_plain {lents : List Lent} {v : AV} {H1 : Heap} (hi : ids v = []) (ht : tags v = []) : wrap H [] lents v H1 = some (v, H) := by
  unfold wrap
  simp only [List.length_nil, List.range_zero, List.nil_append, hi, reach_none, List.filter_nil, List.map_nil, ht, tagsObjs, List.append_nil, List.all_nil, if_true, List.flatMap_nil, strike, putBack]
  rw [ren_flat v hi (by simp [ht])]

/-- what comes back of a new slice of plain cells -/
def fresh (ob : Obj) : Obj := { ob with g := 0, tg := 0 }

def plainP : AV → Bool
  | .pb _ | .pi _ _ | .pn => true
  | _ => false

theorem plainP_ren {ρ : Nat → Nat → Option (Nat × Nat)} {τ : Nat → Nat} {p : AV} (h : plainP p = true) : ren ρ τ p = p := by
  cases p <;> simp [plainP] at h <;> rfl

theorem reach_one {H1 : Heap} {o : Nat} {ob : Obj} (ho : H1[o]? = some (some ob)) (hob : ob.ids = false) : reach H1 reachFuel [o] [] = [o] := by
  show reach H1 (99998 + 1 + 1) [o] [] = [o]
  simp [reach, ho, hob]

/-- the value with its one handle turned -/
theorem wrap_new {lents : List Lent} {v : AV} {H1 : Heap} {o g : Nat} {ob : Obj} (hi : ids v = [o]) (ht : tags v = []) (hl : live H1 o g = some ob) (hob : ob.ids = false) (hp : plainP ob.p = true) (htg : ob.tg = 0) :
    wrap H [] lents v H1 = some (ren (fun o' g' => if o' = o ∧ g' = g then some (H.length, 0) else none) (fun t => t) v, H ++ [some (fresh ob)]) := by
  obtain ⟨h1, h2⟩ := live_iff.1 hl
  unfold wrap
  have hat : obAt H1 o = some ob := by simp [obAt, h1]
  have htags : tagsOb ob = [0] := by
    unfold tagsOb
    rw [hob, htg]
    cases hq : ob.p <;> simp [hq, plainP] at hp <;> simp
  have hρ : ren (backN H [] [o] H1) (backT lents) v = ren (fun o' g' => if o' = o ∧ g' = g then some (H.length, 0) else none) (fun t => t) v := by
    have key : ∀ o' g', o' ∈ ids v → backN H [] [o] H1 o' g' = if o' = o ∧ g' = g then some (H.length, 0) else none := by
      intro o' g' hm
      rw [hi] at hm
      simp only [List.mem_singleton] at hm
      subst hm
      unfold backN
      by_cases hg : g' = g
      · subst hg
        rw [hl]
        simp [idxOf]
      · have : live H1 o' g' = none := by
          simp only [live, h1]
          rw [if_neg (fun e => hg (e.symm.trans h2))]
        rw [this]
        simp [hg]
    exact ren_same v (fun o' g' hm => key o' g' hm) (by simp [ht])
  simp only [List.length_nil, List.range_zero, List.nil_append, hi, reach_one h1 hob, ht, tagsObjs, List.append_nil, List.map_nil, hat, htags, List.map_cons, Nat.zero_le, decide_true, List.filter_cons_of_pos, List.filter_nil, strike, putBack]
  have h0 : backTag lents 0 = some 0 := rfl
  simp only [List.all_cons, List.all_nil, h0, Option.isSome_some, Bool.and_true, if_true, List.flatMap_cons, List.flatMap_nil, goneOf, List.append_nil, strike, Option.map_some, Option.some.injEq, Prod.mk.injEq]
  refine ⟨hρ, ?_⟩
  simp only [renObj, plainP_ren hp, fresh, htg]
  rfl

variable {T : Cf}

/-- a call that tells something plain -/
theorem Ev1.plain (hT : Below C T) {args : List AV} {fn : Func} {c : Code} {as : List AV} {lents : List Lent} {out : Out} {l : List AV}
    (hF : C.P.funcs[f]? = some fn) (hb : fn.body = some c) (hl : lendArgs C f H 0 args = some (as, lents)) (hi : idsL as = []) (hn : as.length + 1 < gtag)
    (he : Run C T f 0 c (numbered 0 (coerce C as (paramsOf C f))) [] out) (hex : out.ex = .normal ∨ out.ex = .ret) (hr : resultsV C out.fr out.H fn.results.toList = some l)
    (hv : ids (resultV l) = []) (ht : tags (resultV l) = []) : Ev1 C f args H (resultV l, H) := by
  refine Ev1.of hT hF hb hl ?_ ?_ hex hr ?_
  · rw [hi, reach_none]
    simp only [Bool.and_eq_true, decide_eq_true_eq]
    exact ⟨List.all_eq_true.2 fun x _ => disjoint_nil x.objs, hn⟩
  · rw [hi, reach_none, renL_flat as hi (fun _ _ => rfl)]
    exact he
  · rw [hi, reach_none]
    exact wrap_plain hv ht

/-- a call that tells a new slice, alone or beside plain values -/
theorem Ev1.fresh (hT : Below C T) {args : List AV} {fn : Func} {c : Code} {as : List AV} {lents : List Lent} {out : Out} {l : List AV} {o g : Nat} {ob : Obj}
    (hF : C.P.funcs[f]? = some fn) (hb : fn.body = some c) (hl : lendArgs C f H 0 args = some (as, lents)) (hi : idsL as = []) (hn : as.length + 1 < gtag)
    (he : Run C T f 0 c (numbered 0 (coerce C as (paramsOf C f))) [] out) (hex : out.ex = .normal ∨ out.ex = .ret) (hr : resultsV C out.fr out.H fn.results.toList = some l)
    (hv : ids (resultV l) = [o]) (ht : tags (resultV l) = []) (ho : live out.H o g = some ob) (hob : ob.ids = false) (hp : plainP ob.p = true) (htg : ob.tg = 0) :
    Ev1 C f args H (ren (fun o' g' => if o' = o ∧ g' = g then some (H.length, 0) else none) (fun t => t) (resultV l), H ++ [some (AM.fresh ob)]) := by
  refine Ev1.of hT hF hb hl ?_ ?_ hex hr ?_
  · rw [hi, reach_none]
    simp only [Bool.and_eq_true, decide_eq_true_eq]
    exact ⟨List.all_eq_true.2 fun x _ => disjoint_nil x.objs, hn⟩
  · rw [hi, reach_none, renL_flat as hi (fun _ _ => rfl)]
    exact he
  · rw [hi, reach_none]
    exact wrap_new hv ht ho hob hp htg

end

-- what a call tells of what is lent, whatever the form in which it is handed over

section
variable {C : Ctx} {f : Nat} {H : Heap}

theorem lend1_idem {t : Nat} {a a' : AV} {x : Lent} (h : lend1 H t a = some (a', x)) (hi : ids a' = []) :
    ∃ y : Lent, (∀ H2, lend1 H2 t a' = some (a', y)) ∧ (∀ s ∈ y.tags, s = t) ∧ y.objs = [] ∧ (y.tags = [] → x.tags = [] ∧ x.objs = []) := by
  cases a
  case sl o off len g =>
    simp only [lend1] at h
    split at h
    · rename_i ob hl
      split at h
      · cases h
      · simp only [Option.map_eq_some_iff, Prod.mk.injEq] at h
        obtain ⟨p, _, rfl, rfl⟩ := h
        exact ⟨⟨[], [t]⟩, fun _ => rfl, by simp, rfl, by simp⟩
    · cases h
  case ro c p t' =>
    simp only [lend1, Option.some.injEq, Prod.mk.injEq] at h
    obtain ⟨rfl, rfl⟩ := h
    exact ⟨⟨[], [t]⟩, fun _ => rfl, by simp, rfl, by simp⟩
  case rptr p i g t' =>
    simp only [lend1, Option.some.injEq, Prod.mk.injEq] at h
    obtain ⟨rfl, rfl⟩ := h
    exact ⟨⟨[], [t]⟩, fun _ => rfl, by simp, rfl, by simp⟩
  all_goals
    simp only [lend1] at h
    split at h
    · rename_i ht
      simp only [Option.some.injEq, Prod.mk.injEq] at h
      obtain ⟨rfl, rfl⟩ := h
      exact ⟨⟨[], []⟩, fun _ => by simp only [lend1]; rw [if_pos ht], by simp, rfl, fun _ => ⟨rfl, rfl⟩⟩
    · cases h

theorem lendL_idem {t : Nat} : ∀ {l l' : List AV} {x : Lent}, lendL H t l = some (l', x) → idsL l' = [] →
    ∃ y : Lent, (∀ H2, lendL H2 t l' = some (l', y)) ∧ (∀ s ∈ y.tags, s = t) ∧ y.objs = [] ∧ (y.tags = [] → x.tags = [] ∧ x.objs = [])
  | [], l', x, h, _ => by
    simp only [lendL, Option.some.injEq, Prod.mk.injEq] at h
    obtain ⟨rfl, rfl⟩ := h
    exact ⟨⟨[], []⟩, fun _ => rfl, by simp, rfl, fun _ => ⟨rfl, rfl⟩⟩
  | a :: l, l', x, h, hi => by
    simp only [lendL] at h
    split at h
    · rename_i a' x1 r' x2 e1 e2
      simp only [Option.some.injEq, Prod.mk.injEq] at h
      obtain ⟨rfl, rfl⟩ := h
      simp only [idsL, List.append_eq_nil_iff] at hi
      obtain ⟨y1, q1, q2, q3, q4⟩ := lend1_idem e1 hi.1
      obtain ⟨y2, p1, p2, p3, p4⟩ := lendL_idem e2 hi.2
      refine ⟨⟨y1.objs ++ y2.objs, y1.tags ++ y2.tags⟩, fun H2 => by simp only [lendL, q1, p1], ?_, by simp [q3, p3], ?_⟩
      · intro s hs
        rcases List.mem_append.1 hs with hs | hs
        · exact q2 s hs
        · exact p2 s hs
      · intro hy
        simp only [List.append_eq_nil_iff] at hy
        obtain ⟨h1, h2⟩ := q4 hy.1
        obtain ⟨h3, h4⟩ := p4 hy.2
        simp [h1, h2, h3, h4]
    · cases h

theorem lendV_idem {t : Nat} {a a' : AV} {x : Lent} (h : lendV H t a = some (a', x)) (hi : ids a' = []) :
    ∃ y : Lent, (∀ H2, lendV H2 t a' = some (a', y)) ∧ (∀ s ∈ y.tags, s = t) ∧ y.objs = [] ∧ (y.tags = [] → x.tags = [] ∧ x.objs = []) := by
  unfold lendV at h
  split at h
  · rename_i l
    cases hl : lendL H t l with
    | none => rw [hl] at h; cases h
    | some z =>
      obtain ⟨l', x'⟩ := z
      rw [hl] at h
      simp only [Option.map_some, Option.some.injEq, Prod.mk.injEq] at h
      obtain ⟨rfl, rfl⟩ := h
      obtain ⟨y, q1, q2⟩ := lendL_idem hl (by simpa [ids] using hi)
      exact ⟨y, fun H2 => by simp only [lendV, q1 H2, Option.map_some], q2⟩
  · rename_i g l
    cases hl : lendL H t l with
    | none => rw [hl] at h; cases h
    | some z =>
      obtain ⟨l', x'⟩ := z
      rw [hl] at h
      simp only [Option.map_some, Option.some.injEq, Prod.mk.injEq] at h
      obtain ⟨rfl, rfl⟩ := h
      obtain ⟨y, q1, q2⟩ := lendL_idem hl (by simpa [ids] using hi)
      exact ⟨y, fun H2 => by simp only [lendV, q1 H2, Option.map_some], q2⟩
  · rename_i n1 n2
    obtain ⟨y, q1, q2⟩ := lend1_idem h hi
    refine ⟨y, fun H2 => ?_, q2⟩
    unfold lendV
    split
    · rename_i l
      exfalso
      cases a <;> simp only [lend1] at h <;> first | (split at h <;> first | (simp only [Option.some.injEq, Prod.mk.injEq] at h; cases h.1; exact n1 _ rfl) | cases h | skip) | skip
      all_goals simp_all
    · rename_i g l
      exfalso
      cases a <;> simp only [lend1] at h <;> first | (split at h <;> first | (simp only [Option.some.injEq, Prod.mk.injEq] at h; cases h.1; exact n2 _ _ rfl) | cases h | skip) | skip
      all_goals simp_all
    · exact q1 H2

theorem lendArgs_idem : ∀ {args as : List AV} {i : Nat} {xs : List Lent}, lendArgs C f H i args = some (as, xs) → idsL as = [] →
    ∃ ys : List Lent, (∀ H2, lendArgs C f H2 i as = some (as, ys)) ∧ ys.length = xs.length ∧
      ∀ k y, ys[k]? = some y → ∃ x, xs[k]? = some x ∧ (∀ s ∈ y.tags, s = i + k + 1) ∧ y.objs = [] ∧ (y.tags = [] → x.tags = [] ∧ x.objs = [])
  | [], as, i, xs, h, _ => by
    simp only [lendArgs, Option.some.injEq, Prod.mk.injEq] at h
    obtain ⟨rfl, rfl⟩ := h
    exact ⟨[], fun _ => rfl, rfl, fun k y h => by simp at h⟩
  | a :: l, as, i, xs, h, hi => by
    have e : ∀ (H : Heap) (a : AV) (l : List AV), ids a = [] → lendArgs C f H i (a :: l) = match lendV H (i + 1) a, lendArgs C f H (i + 1) l with
        | some (a', x), some (r', y) => some (a' :: r', x :: y)
        | _, _ => none := by
      intro H a l ha
      cases a
      case sl o off len g => simp [ids] at ha
      all_goals
        simp only [lendArgs]
        generalize lendV H (i + 1) _ = x
        generalize lendArgs C f H (i + 1) l = y
        cases C.rw f i <;> rcases x with _ | ⟨_, _⟩ <;> rcases y with _ | ⟨_, _⟩ <;> rfl
    simp only [lendArgs] at h
    split at h
    · rename_i a' x1 r' x2 e1 e2
      simp only [Option.some.injEq, Prod.mk.injEq] at h
      obtain ⟨rfl, rfl⟩ := h
      simp only [idsL, List.append_eq_nil_iff] at hi
      have e3 : lendV H (i + 1) a = some (a', x1) := by
        split at e1
        · simp only [Option.some.injEq, Prod.mk.injEq] at e1
          obtain ⟨rfl, rfl⟩ := e1
          simp [ids] at hi
        · exact e1
      obtain ⟨y1, q1, q2, q3, q4⟩ := lendV_idem e3 hi.1
      obtain ⟨ys, p1, p2, p3⟩ := lendArgs_idem e2 hi.2
      refine ⟨y1 :: ys, fun H2 => by rw [e H2 a' r' hi.1, q1, p1], by simp [p2], fun k y hy => ?_⟩
      cases k with
      | zero =>
        simp only [List.getElem?_cons_zero, Option.some.injEq] at hy
        subst hy
        exact ⟨x1, rfl, q2, q3, q4⟩
      | succ k =>
        obtain ⟨x, h1, h2, h3⟩ := p3 k y (by simpa using hy)
        exact ⟨x, by simpa using h1, fun s hs => by rw [h2 s hs]; omega, h3⟩
    · cases h

mutual
theorem tags_ren' {ρ : Nat → Nat → Option (Nat × Nat)} {τ : Nat → Nat} : (v : AV) → tags (ren ρ τ v) = (tags v).map τ
  | .ptr o i f g => by simp only [ren]; rcases ρ o g with _ | ⟨_, _⟩ <;> rfl
  | .sl o a b g => by simp only [ren]; rcases ρ o g with _ | ⟨_, _⟩ <;> rfl
  | .map o g => by simp only [ren]; rcases ρ o g with _ | ⟨_, _⟩ <;> rfl
  | .ro c p t => rfl
  | .rptr p i f t => rfl
  | .agg p => by simp only [ren, tags, tags_ren' p]
  | .tup l => by simp only [ren, tags, tagsL_ren' l]
  | .fn f l => by simp only [ren, tags, tagsL_ren' l]
  | .pc l => by simp only [ren, tags, tagsL_ren' l]
  | .pr e l => by simp only [ren, tags, tagsL_ren' l]
  | .pm l => by simp only [ren, tags, tagsL_ren' l]
  | .top => rfl
  | .bool _ => rfl
  | .int _ _ => rfl
  | .str _ => rfl
  | .nilptr => rfl
  | .nilfn => rfl
  | .nilmap => rfl
  | .pn => rfl
  | .pb _ => rfl
  | .pi _ _ => rfl
theorem tagsL_ren' {ρ : Nat → Nat → Option (Nat × Nat)} {τ : Nat → Nat} : (l : List AV) → tagsL (renL ρ τ l) = (tagsL l).map τ
  | [] => rfl
  | a :: r => by simp only [renL, tagsL, List.map_append, tags_ren' a, tagsL_ren' r]
end

theorem tagsOb_ren {ρ : Nat → Nat → Option (Nat × Nat)} {τ : Nat → Nat} {g : Nat} (ob : Obj) : tagsOb (renObj ρ τ g ob) = (tagsOb ob).map τ := by
  unfold tagsOb renObj
  simp only
  split
  · exact tags_ren' ob.p
  · simp only [List.map_cons, List.cons.injEq, true_and]
    cases ob.p <;> simp only [ren, List.map_nil]
    case ptr o i f g => rcases ρ o g with _ | ⟨_, _⟩ <;> rfl
    case sl o a b g => rcases ρ o g with _ | ⟨_, _⟩ <;> rfl
    case map o g => rcases ρ o g with _ | ⟨_, _⟩ <;> rfl
    case pm l => exact tagsL_ren' l

theorem tagsObjs_ren {ρ : Nat → Nat → Option (Nat × Nat)} {τ : Nat → Nat} {g : Nat → Nat} : ∀ (l : List (Option Obj)), tagsObjs (l.map fun x => x.map fun ob => renObj ρ τ (g ob.g) ob) = (tagsObjs l).map τ
  | [] => rfl
  | none :: r => by simp only [List.map_cons, Option.map_none, tagsObjs, tagsObjs_ren r]
  | some ob :: r => by simp only [List.map_cons, Option.map_some, tagsObjs, List.map_append, tagsOb_ren, tagsObjs_ren r]

theorem joinTags_same {t : Nat} (ht : t ≠ 0) : ∀ {l : List Nat}, (∀ s ∈ l, s = t) → l ≠ [] → joinTags l = some t
  | [], _, h => absurd rfl h
  | a :: [], h, _ => by
    have := h a (by simp)
    subst this
    simp [joinTags, joinTag, ht]
  | a :: b :: r, h, _ => by
    have := h a (by simp)
    subst this
    have ih := joinTags_same ht (l := b :: r) (fun s hs => h s (by simp at hs ⊢; right; exact hs)) (by simp)
    rw [joinTags, ih]
    simp [joinTag, ht]

/-- nothing lent is in what is told -/
def cleanV (v : AV) : Bool := (tags v).all (· == 0)
def cleanH (N : Heap) : Bool := N.all fun | some ob => ob.tg == 0 && (tags ob.p).all (· == 0) | none => true

theorem cleanV_iff {v : AV} (h : cleanV v = true) : ∀ t ∈ tags v, t = 0 := fun t ht => by simpa using List.all_eq_true.1 h t ht
theorem cleanH_iff {N : Heap} (h : cleanH N = true) {ob : Obj} (ho : some ob ∈ N) : ob.tg = 0 ∧ ∀ t ∈ tags ob.p, t = 0 := by
  have := List.all_eq_true.1 h _ ho
  simp only [Bool.and_eq_true, beq_iff_eq, List.all_eq_true] at this
  exact this
theorem cleanOb {ob : Obj} (h : ob.tg = 0 ∧ ∀ t ∈ tags ob.p, t = 0) : ∀ t ∈ tagsOb ob, t = 0 := by
  intro t ht
  unfold tagsOb at ht
  split at ht
  · exact h.2 t ht
  · rcases List.mem_cons.1 ht with rfl | ht
    · exact h.1
    · cases hp : ob.p <;> rw [hp] at ht <;> simp only [List.not_mem_nil] at ht
      rw [hp] at h
      exact h.2 t ht
theorem cleanObjs : ∀ {N : Heap}, cleanH N = true → ∀ t ∈ tagsObjs N, t = 0
  | [], _, t, ht => by simp [tagsObjs] at ht
  | none :: r, h, t, ht => by
    refine cleanObjs (N := r) ?_ t (by simpa [tagsObjs] using ht)
    simpa [cleanH] using h
  | some ob :: r, h, t, ht => by
    simp only [tagsObjs, List.mem_append] at ht
    rcases ht with ht | ht
    · exact cleanOb (cleanH_iff h (by simp)) t ht
    · refine cleanObjs (N := r) ?_ t ht
      simp only [cleanH, List.all_cons, Bool.and_eq_true] at h
      exact h.2

/-- a call on what is lent, in an empty heap, of which nothing lent comes back: the same in any heap, in whatever form the arguments are handed over -/
theorem Ev1.lent {args as : List AV} {xs : List Lent} {v : AV} {N : Heap} (h : Ev1 C f as [] (v, N)) (hl : lendArgs C f H 0 args = some (as, xs)) (hi : idsL as = [])
    (hcv : cleanV v = true) (hcN : cleanH N = true) : Ev1 C f args H (shiftV H.length v, H ++ shiftH H.length N) := by
  have hv := cleanV_iff hcv
  have hN := cleanObjs hcN
  obtain ⟨ys, k1, k2, k3⟩ := lendArgs_idem hl hi
  obtain ⟨n0, h0⟩ := h
  have kz : ∀ t, backT (ys ++ [⟨[], []⟩]) t = 0 → backT (xs ++ [⟨[], []⟩]) t = 0 := by
    intro t hb0
    unfold backT backTag at hb0 ⊢
    split
    · rfl
    · rename_i ht0
      rw [if_neg ht0] at hb0
      by_cases hlt : t - 1 < ys.length
      · rw [List.getElem?_append_left hlt, List.getElem?_eq_getElem hlt] at hb0
        simp only at hb0
        obtain ⟨x, q1, q2, q3, q4⟩ := k3 (t - 1) _ (List.getElem?_eq_getElem hlt)
        rw [List.getElem?_append_left (by omega), q1]
        simp only
        have hnil : (ys[t - 1]).tags = [] := by
          apply Classical.byContradiction
          intro hne
          have := joinTags_same (t := 0 + (t - 1) + 1) (by omega) q2 hne
          rw [this] at hb0
          simp at hb0
        rw [(q4 hnil).1]
        rfl
      · by_cases hlt2 : t - 1 = ys.length
        · have e : (xs ++ [(⟨[], []⟩ : Lent)])[t - 1]? = some ⟨[], []⟩ := by
            rw [List.getElem?_append_right (by omega), hlt2, k2]
            simp
          rw [e]
          rfl
        · have e : (xs ++ [(⟨[], []⟩ : Lent)])[t - 1]? = none := by
            rw [List.getElem?_eq_none]
            simp
            omega
          rw [e]
          rfl
  refine ⟨n0 + 1, fun n hn => ?_⟩
  obtain ⟨n, rfl⟩ : ∃ i, n = i + 1 := ⟨n - 1, by omega⟩
  have h1 := h0 (n + 1) (by omega)
  simp only [callF, enterV] at h1 ⊢
  rw [k1 []] at h1
  rw [hl]
  simp only at h1 ⊢
  rw [hi] at h1 ⊢
  simp only [reach_nil, List.map_nil, List.length_nil] at h1 ⊢
  rw [renL_flat as hi (fun _ _ => rfl)] at h1 ⊢
  split at h1
  · rename_i hc
    have hc' : ((xs.all fun x => disjoint x.objs []) && decide (as.length + 1 < gtag)) = true := by
      simp only [Bool.and_eq_true] at hc ⊢
      exact ⟨List.all_eq_true.2 fun x _ => disjoint_nil x.objs, hc.2⟩
    rw [if_pos hc']
    split at h1
    · cases h1
    · rename_i u H1 hb
      unfold wrap at h1 ⊢
      simp only [List.length_nil, List.range_zero, List.nil_append, List.map_nil, tagsObjs, List.append_nil] at h1 ⊢
      generalize hnew : (List.filter (fun o => decide (0 ≤ o)) (reach H1 reachFuel (ids u) [])) = new at h1 ⊢
      split at h1
      · rename_i hu
        simp only [Option.some.injEq, Prod.mk.injEq] at h1
        obtain ⟨h2, h3⟩ := h1
        have hgone0 : ∀ t, goneOf (ys ++ [⟨[], []⟩]) t = [] := by
          intro t
          unfold goneOf
          split
          · rfl
          · split
            · rename_i x hx
              rcases List.mem_append.1 (List.mem_of_getElem? hx) with hx | hx
              · obtain ⟨k, hk⟩ := List.getElem?_of_mem hx
                obtain ⟨_, _, _, q, _⟩ := k3 k x hk
                exact q
              · simp only [List.mem_singleton] at hx
                rw [hx]
            · rfl
        have hfl0 : ∀ l : List Nat, l.flatMap (goneOf (ys ++ [⟨[], []⟩])) = [] := fun l => by simp [hgone0]
        rw [hfl0] at h3
        simp only [strike, putBack, List.nil_append] at h3
        -- all tags used are none
        have hz : ∀ t ∈ tags u ++ tagsObjs (new.map (obAt H1)), backT (ys ++ [⟨[], []⟩]) t = 0 := by
          intro t ht
          rcases List.mem_append.1 ht with ht | ht
          · refine hv _ ?_
            rw [← h2, tags_ren']
            exact List.mem_map.2 ⟨t, ht, rfl⟩
          · refine hN _ ?_
            rw [← h3]
            have := tagsObjs_ren (ρ := backN [] [] new H1) (τ := backT (ys ++ [⟨[], []⟩])) (g := fun _ => 0) (new.map (obAt H1))
            rw [List.map_map] at this
            rw [show (fun o => Option.map (renObj (backN [] [] new H1) (backT (ys ++ [⟨[], []⟩])) 0) (obAt H1 o)) = ((fun x : Option Obj => x.map fun ob => renObj (backN [] [] new H1) (backT (ys ++ [⟨[], []⟩])) 0 ob) ∘ obAt H1) from rfl, this]
            exact List.mem_map.2 ⟨t, ht, rfl⟩
        have hk : ∀ t ∈ tags u ++ tagsObjs (new.map (obAt H1)), backTag (xs ++ [⟨[], []⟩]) t = some 0 ∧ goneOf (xs ++ [⟨[], []⟩]) t = [] := by
          intro t ht
          have hb0 := hz t ht
          have hs := List.all_eq_true.1 hu t ht
          by_cases ht0 : t = 0
          · subst ht0
            exact ⟨rfl, rfl⟩
          · unfold backT at hb0
            unfold backTag at hb0 hs ⊢
            unfold goneOf
            rw [if_neg ht0] at hb0 hs ⊢
            rw [if_neg ht0]
            by_cases hlt : t - 1 < ys.length
            · rw [List.getElem?_append_left hlt, List.getElem?_eq_getElem hlt] at hb0 hs
              simp only at hb0 hs
              obtain ⟨x, q1, q2, q3, q4⟩ := k3 (t - 1) _ (List.getElem?_eq_getElem hlt)
              rw [List.getElem?_append_left (by omega), q1]
              simp only
              have hnil : (ys[t - 1]).tags = [] := by
                apply Classical.byContradiction
                intro hne
                have := joinTags_same (t := 0 + (t - 1) + 1) (by omega) q2 hne
                rw [this] at hb0
                simp at hb0
              obtain ⟨q5, q6⟩ := q4 hnil
              rw [q5, q6]
              exact ⟨rfl, rfl⟩
            · by_cases hlt2 : t - 1 = ys.length
              · have e : (xs ++ [(⟨[], []⟩ : Lent)])[t - 1]? = some ⟨[], []⟩ := by
                  rw [List.getElem?_append_right (by omega), hlt2, k2]
                  simp
                rw [e]
                exact ⟨rfl, rfl⟩
              · have e : (ys ++ [(⟨[], []⟩ : Lent)])[t - 1]? = none := by
                  rw [List.getElem?_eq_none]
                  simp
                  omega
                rw [e] at hs
                cases hs
        have hu' : ((tags u ++ tagsObjs (new.map (obAt H1))).all fun t => (backTag (xs ++ [⟨[], []⟩]) t).isSome) = true := List.all_eq_true.2 fun t ht => by rw [(hk t ht).1]; rfl
        rw [if_pos hu']
        have hfl : (tags u ++ tagsObjs (new.map (obAt H1))).flatMap (goneOf (xs ++ [⟨[], []⟩])) = [] := List.flatMap_eq_nil_iff.2 fun t ht => (hk t ht).2
        rw [hfl]
        simp only [strike, putBack, Option.some.injEq, Prod.mk.injEq]
        have hrho : ∀ o g, backN H [] new H1 o g = (backN [] [] new H1 o g).map fun x => (x.1 + H.length, x.2) := by
          intro o g
          unfold backN
          split
          · have := idxOf_shift new o 0 H.length
            rw [Nat.zero_add] at this
            simp [this, Option.map_map, Function.comp_def]
          · rfl
        have hτ : ∀ t ∈ tags u ++ tagsObjs (new.map (obAt H1)), backT (xs ++ [⟨[], []⟩]) t = backT (ys ++ [⟨[], []⟩]) t := fun t ht => by
          rw [hz t ht]
          unfold backT
          rw [(hk t ht).1]
          rfl
        refine ⟨?_, ?_⟩
        · rw [← h2, ← ren_shift hrho u]
          exact ren_same u (fun _ _ _ => rfl) fun t ht => hτ t (List.mem_append_left _ ht)
        · rw [← h3]
          congr 1
          simp only [shiftH, List.map_map]
          refine List.map_congr_left fun o ho => ?_
          simp only [Function.comp]
          cases hob : obAt H1 o with
          | none => rfl
          | some ob =>
            have hmem : some (renObj (backN [] [] new H1) (backT (ys ++ [⟨[], []⟩])) 0 ob) ∈ N := by
              rw [← h3]
              exact List.mem_map.2 ⟨o, ho, by rw [hob]; rfl⟩
            obtain ⟨c1, c2⟩ := cleanH_iff hcN hmem
            simp only [renObj] at c1 c2
            have e1 := ren_shift (τ := backT (ys ++ [⟨[], []⟩])) hrho ob.p
            simp only [shiftV] at e1
            have e2 : ren (backN H [] new H1) (backT (xs ++ [⟨[], []⟩])) ob.p = ren (backN H [] new H1) (backT (ys ++ [⟨[], []⟩])) ob.p := by
              refine ren_same ob.p (fun _ _ _ => rfl) fun t ht => ?_
              have : backT (ys ++ [⟨[], []⟩]) t = 0 := c2 _ (by rw [tags_ren']; exact List.mem_map.2 ⟨t, ht, rfl⟩)
              rw [this, kz t this]
            simp only [Option.map_some, renObj, Option.some.injEq]
            rw [← e1, e2, kz _ c1, c1]
      · cases h1
  · cases h1

/-- a table by what is lent -/
def lentT (C : Ctx) (S : Nat → List AV → Option (AV × Heap)) : Cf := fun f args H =>
  match lendArgs C f H 0 args with
  | some (as, _) => if (idsL as).isEmpty then match S f as with
      | some (v, N) => if (cleanV v && cleanH N) = true then some (shiftV H.length v, H ++ shiftH H.length N) else none
      | none => none
    else none
  | none => none

theorem lentT_below {S : Nat → List AV → Option (AV × Heap)} (hS : ∀ f as v N, S f as = some (v, N) → Ev1 C f as [] (v, N)) : Below C (lentT C S) := by
  intro f args H r h
  unfold lentT at h
  split at h
  · rename_i as xs hl
    split at h
    · rename_i hi
      split at h
      · rename_i v N hs
        split at h
        · rename_i hc
          simp only [Bool.and_eq_true] at hc
          rw [← Option.some.inj h]
          exact Ev1.lent (hS f as v N hs) hl (List.isEmpty_iff.1 hi) hc.1 hc.2
        · cases h
      · cases h
    · cases h
  · cases h

def rowS (L : List Row1) (f : Nat) (as : List AV) : Option (AV × Heap) := (L.find? fun e => e.f == f && eqL e.args as).map fun e => (e.res, e.N)

/-- rows by what is lent -/
def rowT (C : Ctx) (L : List Row1) : Cf := fun f args H => if (L.any fun e => e.f == f) then lentT C (rowS L) f args H else none

theorem rowT_below {L : List Row1} (h : RowsOk C L) : Below C (rowT C L) := by
  intro f args H r hr
  unfold rowT at hr
  split at hr
  · refine lentT_below (fun f as v N hs => ?_) f args H r hr
    unfold rowS at hs
    obtain ⟨e, he, h1⟩ := Option.map_eq_some_iff.1 hs
    simp only [Prod.mk.injEq] at h1
    obtain ⟨rfl, rfl⟩ := h1
    have h3 := List.find?_some he
    simp only [Bool.and_eq_true, beq_iff_eq] at h3
    rw [← h3.1, ← eqL_eq _ _ h3.2]
    exact (h e (List.mem_of_find?_eq_some he)).1
  · cases hr

end

def blockOut (id : Nat) (o : Out) : Out := match o.ex with
  | .exit i => if i = id then ⟨.normal, o.fr, o.H⟩ else o
  | _ => o

section
variable {C : Ctx} {T : Cf} {f m : Nat} {fr : Frame} {H : Heap} {out : Out}

theorem Run.block' {id : Nat} {c : Code} {o : Out} (h : Run C T f m c fr H o) : Run C T f m (.block id c) fr H (blockOut id o) := by
  obtain ⟨ex, fr', H'⟩ := o
  cases ex with
  | normal => exact Run.block h (fun e => by cases e)
  | ret => exact Run.block h (fun e => by cases e)
  | exit i =>
    by_cases hi : i = id
    · subst hi
      simp only [blockOut, if_true]
      exact Run.block_exit h
    · simp only [blockOut, hi, if_false]
      exact Run.block h (by simpa using hi)

theorem Run.seq' {a b : Code} {o : Out} (h : Run C T f m a fr H o) (h1 : ∀ fr' H', o = ⟨.normal, fr', H'⟩ → Run C T f m b fr' H' out) (h2 : o.ex ≠ .normal → o = out) : Run C T f m (.seq a b) fr H out := by
  obtain ⟨ex, fr', H'⟩ := o
  cases ex with
  | normal => exact Run.seq h (h1 fr' H' rfl)
  | ret => have := h2 (by simp); subst this; exact Run.seq_out h (by simp)
  | exit i => have := h2 (by simp); subst this; exact Run.seq_out h (by simp)

end

end Go.AM

/- What a walk unfolds. -/
namespace Go.AM
attribute [go_sem] exec runOps dstOk wantedV step evalT evalO evalArgs evalParts getF putF afterRegion assignV boxOf newBox hasIdsP keepF ofVal ofCell pesz callV builtinV lenV binV unV arith shiftI putV indexAddrV live upd pget pset psetA pagg retag retagP byteAV freezeP freezeV joinTags joinTag tags ids scalar cellsLen convV faV fvV shiftBy shiftRo

end Go.AM

/- Wrapped numbers. -/
namespace Go.AM

theorem wrap_u {k : IntKind} (hk : k.signed = false) {n : Int} (h0 : 0 ≤ n) (h1 : n < 2 ^ k.bits) : k.wrap n = n := by
  simp only [IntKind.wrap, hk, Bool.false_and, Bool.false_eq_true, if_false]
  exact Int.emod_eq_of_lt h0 h1

theorem wrap_u8 {n : Int} (h0 : 0 ≤ n) (h1 : n < 256) : IntKind.u8.wrap n = n := wrap_u rfl h0 (by exact h1)
theorem wrap_u16 {n : Int} (h0 : 0 ≤ n) (h1 : n < 65536) : IntKind.u16.wrap n = n := wrap_u rfl h0 (by exact h1)
theorem wrap_u32 {n : Int} (h0 : 0 ≤ n) (h1 : n < 4294967296) : IntKind.u32.wrap n = n := wrap_u rfl h0 (by exact h1)
theorem wrap_u64 {n : Int} (h0 : 0 ≤ n) (h1 : n < 18446744073709551616) : IntKind.u64.wrap n = n := wrap_u rfl h0 (by exact h1)

theorem wrap_i64 {n : Int} (h0 : -9223372036854775808 ≤ n) (h1 : n < 9223372036854775808) : IntKind.i64.wrap n = n := by
  have e1 : IntKind.i64.bits = 64 := rfl
  have e2 : IntKind.i64.signed = true := rfl
  simp only [IntKind.wrap, e1, e2, Bool.true_and, decide_eq_true_eq]
  have p64 : (2 : Int) ^ 64 = 18446744073709551616 := rfl
  have p63 : (2 : Int) ^ (64 - 1) = 9223372036854775808 := rfl
  rw [p64, p63]
  by_cases hn : 0 ≤ n
  · rw [Int.emod_eq_of_lt hn (by omega), if_neg (by omega)]
  · have : n % 18446744073709551616 = n + 18446744073709551616 := by omega
    rw [this, if_pos (by omega)]
    omega

end Go.AM

/- Arguments of laws: what comes in, as the abstract machine's values. -/
namespace Go.AM
open Go.ChangeShapes Go.WideShapes Go.ChangeAt Go.RowKit

section
variable {H : Type} {enc : TypeId × Value → H} {P : Program} {W : World}

theorem start_nt {b t : Nat} (hb : b < W.heap.size) (ht : t ≠ 0) : NT (start W) (T0 W.heap.size) t b := ⟨.inr ht, start_own W b, hb⟩

theorem u8_wf {n : Int} (h : (Lit.int .u8 n).wf = true) : 0 ≤ n ∧ n < 256 := by
  have : IntKind.u8.min ≤ n ∧ n ≤ IntKind.u8.max := by simpa [Lit.wf] using h
  have e1 : IntKind.u8.min = 0 := rfl
  have e2 : IntKind.u8.max = 255 := rfl
  omega

theorem ro_rel {c : Nat} {l : List UInt8} {ad : Option Addr} {cap : Nat} (hs : RoShape c l.length ad cap)
    (hc : ∀ a, ad = some a → l.length ≠ 0 → a.spot = none ∧ a.block < W.heap.size ∧ ∀ j b, l[j]? = some b → W.cell? ⟨a.block, a.off + j, none⟩ = some (.int .u8 (b.toNat : Int))) :
    VRel (start W) (T0 W.heap.size) (.ro c (.pb l) 1) (.slice ad l.length cap) := by
  simp only [VRel, V1Rel, SRel, RV]
  refine ⟨ad, cap, rfl, hs, fun a ha hn => ?_⟩
  obtain ⟨h1, h2, h3⟩ := hc a ha hn
  exact ⟨h1, start_nt h2 (by omega), by simp only [RP]; exact h3⟩

end

end Go.AM

/- Calls that are handed one object, whose cells name no other: what comes back. -/
namespace Go.AM

/-- a payload's tags all turned to one -/
def rt (t : Nat) (p : AV) : AV := ren (fun _ _ => none) (fun _ => t) p

/-- a callee's tags turned back: n, the tag of what was handed over, to t; all others to none -/
def bk (n t : Nat) (k : Nat) : Nat := if k = n then t else 0

theorem reach_box {H : Heap} {o : Nat} {ob : Obj} (ho : H[o]? = some (some ob)) (hi : ids ob.p = []) : reach H reachFuel [o] [] = [o] := by
  show reach H (99998 + 1 + 1) [o] [] = [o]
  simp [reach, ho, hi]

theorem reach_box2 {H : Heap} {o o2 : Nat} {ob ob2 : Obj} (ho : H[o]? = some (some ob)) (hi : ids ob.p = []) (ho2 : H[o2]? = some (some ob2)) (hi2 : ids ob2.p = []) (hne : o2 ≠ o) : reach H reachFuel [o, o2] [] = [o, o2] := by
  show reach H (99997 + 1 + 1 + 1) [o, o2] [] = [o, o2]
  simp [reach, ho, hi, ho2, hi2, hne]

theorem plainP_ids {p : AV} (h : plainP p = true) : ids p = [] := by cases p <;> simp [plainP] at h <;> rfl

section
variable {C : Ctx} {f : Nat} {H : Heap} {T : Cf}

theorem ids_ren {ρ : Nat → Nat → Option (Nat × Nat)} {τ : Nat → Nat} {p : AV} (h : ids p = []) : ids (ren ρ τ p) = [] := by
  have h1 : ren ρ τ p = ren (fun o g => some (o, g)) τ p := ren_same p (fun o g ho => by rw [h] at ho; cases ho) (fun _ _ => rfl)
  rw [h1]
  exact (ids_ren_id p).trans h
where
  ids_ren_id : (p : AV) → ids (ren (fun o g => some (o, g)) τ p) = ids p
    | .ptr .. | .sl .. | .map .. | .ro .. | .rptr .. | .top | .bool _ | .int .. | .str _ | .nilptr | .nilfn | .nilmap | .pn | .pb _ | .pi .. => rfl
    | .agg p => by simp only [ren, ids]; exact ids_ren_id p
    | .tup l => by simp only [ren, ids]; exact idsL_ren_id l
    | .fn _ l => by simp only [ren, ids]; exact idsL_ren_id l
    | .pc l => by simp only [ren, ids]; exact idsL_ren_id l
    | .pr _ l => by simp only [ren, ids]; exact idsL_ren_id l
    | .pm l => by simp only [ren, ids]; exact idsL_ren_id l
  idsL_ren_id : (l : List AV) → idsL (renL (fun o g => some (o, g)) τ l) = idsL l
    | [] => rfl
    | a :: r => by simp only [renL, idsL]; rw [ids_ren_id a, idsL_ren_id r]

/-- a call on a pointer to one object that names no other, and on arguments that are lent -/
theorem Ev1.box (hT : Below C T) {o g : Nat} {ob ob1 : Obj} {xs ys : List AV} {lents : List Lent} {fn : Func} {c : Code} {out : Out} {l : List AV} {rest : Heap} {n t : Nat}
    (hF : C.P.funcs[f]? = some fn) (hb : fn.body = some c) (hrw : C.rw f 0 = false) (ho : H[o]? = some (some ob)) (hg : ob.g = g) (hi : ids ob.p = [])
    (hl : lendArgs C f H 1 xs = some (ys, lents)) (hiy : idsL ys = []) (hob : lents.all (fun x => disjoint x.objs [o]) = true) (hn : ys.length + 2 = n) (hng : n < gtag)
    (hj : joinTags (tagsOb ob) = some t)
    (he : Run C T f 1 c (numbered 0 (coerce C (.ptr 0 0 0 0 :: ys) (paramsOf C f))) [some { ob with p := rt n ob.p, g := 0, tg := n }] out)
    (hex : out.ex = .normal ∨ out.ex = .ret) (hr : resultsV C out.fr out.H fn.results.toList = some l)
    (hH : out.H = some ob1 :: rest) (hid1 : ob1.ids = true) (hi1 : ids ob1.p = []) (hv : ids (resultV l) = [])
    (hu : ∀ k ∈ tags (resultV l) ++ tagsOb ob1, k = 0 ∨ k = n) (ht1 : ob1.tg = 0 ∨ ob1.tg = n) :
    Ev1 C f (.ptr o 0 0 g :: xs) H (ren (fun _ _ => none) (bk n t) (resultV l), upd H o (some { ob1 with p := ren (fun _ _ => none) (bk n t) ob1.p, g := g + (if ob1.g = 0 then 0 else 1), tg := bk n t ob1.tg })) := by
  have hlive : live H o g = some ob := by simp [live, ho, hg]
  have hat : obAt H o = some ob := by simp [obAt, ho]
  have hl' : lendArgs C f H 0 (.ptr o 0 0 g :: xs) = some (.ptr o 0 0 g :: ys, ⟨[], []⟩ :: lents) := by
    simp only [lendArgs, hrw]
    simp [lendV, lend1, tags, hl]
  have hre : reach H reachFuel (idsL (.ptr o 0 0 g :: ys)) [] = [o] := by
    rw [show idsL (.ptr o 0 0 g :: ys) = [o] by simp [idsL, ids, hiy]]
    exact reach_box ho hi
  have hin : intoN H [o] o g = some (0, 0) := by simp [intoN, hlive, idxOf]
  have hlen := lendArgs_len hl
  have hn0 : 0 < n := by omega
  refine Ev1.of (out := out) (l := l) hT hF hb hl' ?_ ?_ hex hr ?_
  · rw [hre]
    simp only [List.all_cons, Bool.and_eq_true, decide_eq_true_eq, List.length_cons]
    exact ⟨⟨rfl, hob⟩, by omega⟩
  · rw [hre]
    have e1 : renL (intoN H [o]) (fun t => t) (.ptr o 0 0 g :: ys) = .ptr 0 0 0 0 :: ys := by
      simp only [renL, ren, hin]
      rw [renL_flat ys hiy (fun _ _ => rfl)]
    have e2 : ([o].map fun o' => (obAt H o').map (renObj (intoN H [o]) (fun _ => (AV.ptr o 0 0 g :: ys).length + 1) 0)) = [some { ob with p := rt n ob.p, g := 0, tg := n }] := by
      simp only [List.map_cons, List.map_nil, hat, Option.map_some, renObj, List.length_cons]
      rw [show ys.length + 1 + 1 = n by omega]
      have e : ren (intoN H [o]) (fun _ => n) ob.p = rt n ob.p := ren_same ob.p (fun o g h => by rw [hi] at h; cases h) (fun _ _ => rfl)
      rw [e]
    rw [e1, e2]
    exact he
  · rw [hre]
    unfold wrap
    have h0 : out.H[0]? = some (some ob1) := by rw [hH]; rfl
    have hat1 : obAt out.H 0 = some ob1 := by simp [obAt, h0]
    have hre1 : reach out.H reachFuel (List.range [o].length ++ ids (resultV l)) [] = [0] := by
      rw [hv]
      exact reach_box h0 hi1
    have hbt : ∀ k, k = 0 ∨ k = n → backTag (⟨[], []⟩ :: lents ++ [⟨[], tagsObjs ([o].map (obAt H))⟩]) k = some (bk n t k) := by
      rintro k (rfl | rfl)
      · unfold backTag bk
        rw [if_pos rfl, if_neg (by omega)]
      · unfold backTag bk
        rw [if_neg (by omega), if_pos rfl]
        rw [List.cons_append, show k - 1 = (k - 2) + 1 by omega, List.getElem?_cons_succ, List.getElem?_append_right (by omega), show k - 2 - lents.length = 0 by omega]
        simp [tagsObjs, hat, hj]
    have hgo : ∀ k, k = 0 ∨ k = n → goneOf (⟨[], []⟩ :: lents ++ [⟨[], tagsObjs ([o].map (obAt H))⟩]) k = [] := by
      rintro k (rfl | rfl)
      · rfl
      · unfold goneOf
        rw [if_neg (by omega)]
        rw [List.cons_append, show k - 1 = (k - 2) + 1 by omega, List.getElem?_cons_succ, List.getElem?_append_right (by omega), show k - 2 - lents.length = 0 by omega]
        rfl
    generalize (⟨[], []⟩ :: lents ++ [⟨[], tagsObjs ([o].map (obAt H))⟩] : List Lent) = L at *
    have hbT : ∀ k, k = 0 ∨ k = n → backT L k = bk n t k := fun k hk => by unfold backT; rw [hbt k hk]; rfl
    simp only [hre1]
    rw [show ([0].filter fun o' => decide ([o].length ≤ o')) = [] from rfl]
    have hus : (tags (resultV l) ++ tagsObjs ((List.range [o].length).map (obAt out.H)) ++ tagsObjs (([] : List Nat).map (obAt out.H))) = tags (resultV l) ++ tagsOb ob1 := by
      simp [tagsObjs, hat1, List.range_succ]
    rw [hus]
    rw [if_pos (List.all_eq_true.2 fun k hk => by rw [hbt k (hu k hk)]; rfl)]
    rw [show (tags (resultV l) ++ tagsOb ob1).flatMap (goneOf L) = [] from List.flatMap_eq_nil_iff.2 fun k hk => hgo k (hu k hk)]
    simp only [strike, List.map_nil, List.append_nil, putBack, hat1, Option.map_some, Option.some.injEq, Prod.mk.injEq]
    refine ⟨ren_same _ (fun o g h => by rw [hv] at h; cases h) (fun k hk => hbT k (hu k (List.mem_append_left _ hk))), ?_⟩
    have hgb : genBack H [o] 0 ob1.g = g + (if ob1.g = 0 then 0 else 1) := by simp [genBack, hat, hg]
    rw [hgb]
    congr 2
    simp only [renObj]
    rw [hbT _ ht1]
    congr 1
    refine ren_same _ (fun o g h => by rw [hi1] at h; cases h) fun k hk => ?_
    unfold tagsOb at hu
    rw [if_pos hid1] at hu
    exact hbT k (hu k (List.mem_append_right _ hk))

/-- such a call that tells a new slice, alone or beside plain values -/
theorem Ev1.boxNew (hT : Below C T) {o g : Nat} {ob ob1 : Obj} {xs ys : List AV} {lents : List Lent} {fn : Func} {c : Code} {out : Out} {l : List AV} {rest : Heap} {n t o1 g1 : Nat} {ob2 : Obj}
    (hF : C.P.funcs[f]? = some fn) (hb : fn.body = some c) (hrw : C.rw f 0 = false) (ho : H[o]? = some (some ob)) (hg : ob.g = g) (hi : ids ob.p = [])
    (hl : lendArgs C f H 1 xs = some (ys, lents)) (hiy : idsL ys = []) (hob : lents.all (fun x => disjoint x.objs [o]) = true) (hn : ys.length + 2 = n) (hng : n < gtag)
    (hj : joinTags (tagsOb ob) = some t)
    (he : Run C T f 1 c (numbered 0 (coerce C (.ptr 0 0 0 0 :: ys) (paramsOf C f))) [some { ob with p := rt n ob.p, g := 0, tg := n }] out)
    (hex : out.ex = .normal ∨ out.ex = .ret) (hr : resultsV C out.fr out.H fn.results.toList = some l)
    (hH : out.H = some ob1 :: rest) (hid1 : ob1.ids = true) (hi1 : ids ob1.p = []) (hv : ids (resultV l) = [o1]) (ho1 : live out.H o1 g1 = some ob2) (hne : o1 ≠ 0) (hid2 : ob2.ids = false) (hp2 : plainP ob2.p = true) (htg2 : ob2.tg = 0)
    (hu : ∀ k ∈ tags (resultV l) ++ tagsOb ob1, k = 0 ∨ k = n) (ht1 : ob1.tg = 0 ∨ ob1.tg = n) :
    Ev1 C f (.ptr o 0 0 g :: xs) H (ren (fun o' g' => if o' = o1 ∧ g' = g1 then some (H.length, 0) else none) (bk n t) (resultV l), upd H o (some { ob1 with p := ren (fun _ _ => none) (bk n t) ob1.p, g := g + (if ob1.g = 0 then 0 else 1), tg := bk n t ob1.tg }) ++ [some (AM.fresh ob2)]) := by
  have hlive : live H o g = some ob := by simp [live, ho, hg]
  have hat : obAt H o = some ob := by simp [obAt, ho]
  have hl' : lendArgs C f H 0 (.ptr o 0 0 g :: xs) = some (.ptr o 0 0 g :: ys, ⟨[], []⟩ :: lents) := by
    simp only [lendArgs, hrw]
    simp [lendV, lend1, tags, hl]
  have hre : reach H reachFuel (idsL (.ptr o 0 0 g :: ys)) [] = [o] := by
    rw [show idsL (.ptr o 0 0 g :: ys) = [o] by simp [idsL, ids, hiy]]
    exact reach_box ho hi
  have hin : intoN H [o] o g = some (0, 0) := by simp [intoN, hlive, idxOf]
  have hlen := lendArgs_len hl
  have hn0 : 0 < n := by omega
  refine Ev1.of (out := out) (l := l) hT hF hb hl' ?_ ?_ hex hr ?_
  · rw [hre]
    simp only [List.all_cons, Bool.and_eq_true, decide_eq_true_eq, List.length_cons]
    exact ⟨⟨rfl, hob⟩, by omega⟩
  · rw [hre]
    have e1 : renL (intoN H [o]) (fun t => t) (.ptr o 0 0 g :: ys) = .ptr 0 0 0 0 :: ys := by
      simp only [renL, ren, hin]
      rw [renL_flat ys hiy (fun _ _ => rfl)]
    have e2 : ([o].map fun o' => (obAt H o').map (renObj (intoN H [o]) (fun _ => (AV.ptr o 0 0 g :: ys).length + 1) 0)) = [some { ob with p := rt n ob.p, g := 0, tg := n }] := by
      simp only [List.map_cons, List.map_nil, hat, Option.map_some, renObj, List.length_cons]
      rw [show ys.length + 1 + 1 = n by omega]
      have e : ren (intoN H [o]) (fun _ => n) ob.p = rt n ob.p := ren_same ob.p (fun o g h => by rw [hi] at h; cases h) (fun _ _ => rfl)
      rw [e]
    rw [e1, e2]
    exact he
  · rw [hre]
    unfold wrap
    have h0 : out.H[0]? = some (some ob1) := by rw [hH]; rfl
    have hat1 : obAt out.H 0 = some ob1 := by simp [obAt, h0]
    obtain ⟨h1, h2⟩ := live_iff.1 ho1
    have hre1 : reach out.H reachFuel (List.range [o].length ++ ids (resultV l)) [] = [0, o1] := by
      rw [hv]
      exact reach_box2 h0 hi1 h1 (plainP_ids hp2) hne
    have hat2 : obAt out.H o1 = some ob2 := by simp [obAt, h1]
    have hbt : ∀ k, k = 0 ∨ k = n → backTag (⟨[], []⟩ :: lents ++ [⟨[], tagsObjs ([o].map (obAt H))⟩]) k = some (bk n t k) := by
      rintro k (rfl | rfl)
      · unfold backTag bk
        rw [if_pos rfl, if_neg (by omega)]
      · unfold backTag bk
        rw [if_neg (by omega), if_pos rfl]
        rw [List.cons_append, show k - 1 = (k - 2) + 1 by omega, List.getElem?_cons_succ, List.getElem?_append_right (by omega), show k - 2 - lents.length = 0 by omega]
        simp [tagsObjs, hat, hj]
    have hgo : ∀ k, k = 0 ∨ k = n → goneOf (⟨[], []⟩ :: lents ++ [⟨[], tagsObjs ([o].map (obAt H))⟩]) k = [] := by
      rintro k (rfl | rfl)
      · rfl
      · unfold goneOf
        rw [if_neg (by omega)]
        rw [List.cons_append, show k - 1 = (k - 2) + 1 by omega, List.getElem?_cons_succ, List.getElem?_append_right (by omega), show k - 2 - lents.length = 0 by omega]
        rfl
    generalize (⟨[], []⟩ :: lents ++ [⟨[], tagsObjs ([o].map (obAt H))⟩] : List Lent) = L at *
    have hbT : ∀ k, k = 0 ∨ k = n → backT L k = bk n t k := fun k hk => by unfold backT; rw [hbt k hk]; rfl
    simp only [hre1]
    rw [show ([0, o1].filter fun o' => decide ([o].length ≤ o')) = [o1] by
      simp only [List.length_cons, List.length_nil]
      rw [List.filter_cons_of_neg (by simp), List.filter_cons_of_pos (by simp; omega), List.filter_nil]]
    have hus : (tags (resultV l) ++ tagsObjs ((List.range [o].length).map (obAt out.H)) ++ tagsObjs ([o1].map (obAt out.H))) = tags (resultV l) ++ tagsOb ob1 ++ [0] := by
      have : tagsOb ob2 = [0] := by unfold tagsOb; rw [hid2, htg2]; cases hq : ob2.p <;> simp [hq, plainP] at hp2 <;> simp
      simp [tagsObjs, hat1, hat2, this, List.range_succ]
    rw [hus]
    have hu2 : ∀ k ∈ tags (resultV l) ++ tagsOb ob1 ++ [0], k = 0 ∨ k = n := fun k hk => by
      rcases List.mem_append.1 hk with hk | hk
      · exact hu k hk
      · simp at hk; exact .inl hk
    rw [if_pos (List.all_eq_true.2 fun k hk => by rw [hbt k (hu2 k hk)]; rfl)]
    rw [show (tags (resultV l) ++ tagsOb ob1 ++ ([0] : List Nat)).flatMap (goneOf L) = [] from List.flatMap_eq_nil_iff.2 fun k hk => hgo k (hu2 k hk)]
    simp only [strike, List.map_cons, List.map_nil, putBack, hat1, hat2, Option.map_some, Option.some.injEq, Prod.mk.injEq]
    have hrho : ∀ o' g', o' ∈ [o1] → backN H [o] [o1] out.H o' g' = if o' = o1 ∧ g' = g1 then some (H.length, 0) else none := by
      intro o' g' hm
      simp only [List.mem_singleton] at hm
      subst hm
      unfold backN
      by_cases hgg : g' = g1
      · subst hgg
        rw [ho1]
        have : ¬ (o' < [o].length) := by simp; omega
        simp only [if_neg this]
        simp [idxOf]
      · have : live out.H o' g' = none := by
          simp only [live, h1]
          rw [if_neg (fun e => hgg (e.symm.trans h2))]
        rw [this]
        simp [hgg]
    refine ⟨ren_same _ (fun o' g' h => hrho o' g' (by rw [← hv]; exact h)) (fun k hk => hbT k (hu k (List.mem_append_left _ hk))), ?_⟩
    have hgb : genBack H [o] 0 ob1.g = g + (if ob1.g = 0 then 0 else 1) := by simp [genBack, hat, hg]
    rw [hgb]
    have e2 : renObj (backN H [o] [o1] out.H) (backT L) 0 ob2 = AM.fresh ob2 := by
      simp only [renObj, plainP_ren hp2, AM.fresh, htg2, hbT 0 (.inl rfl)]
      unfold bk; rw [if_neg (by omega)]
    rw [e2]
    congr 3
    simp only [renObj]
    rw [hbT _ ht1]
    congr 1
    refine ren_same _ (fun o g h => by rw [hi1] at h; cases h) fun k hk => ?_
    unfold tagsOb at hu
    rw [if_pos hid1] at hu
    exact hbT k (hu k (List.mem_append_right _ hk))

end

end Go.AM

/- The table of all that is told; slices of bytes as objects; calls tried on each of a range. -/
namespace Go.AM

open Classical in
/-- the table of all that is told -/
noncomputable def evT (C : Ctx) : Cf := fun f xs H => if h : ∃ r, Ev1 C f xs H r then some (Classical.choose h) else none

theorem Ev1.one {C : Ctx} {f : Nat} {xs : List AV} {H : Heap} {r r2 : AV × Heap} (h : Ev1 C f xs H r) (h2 : Ev1 C f xs H r2) : r = r2 := by
  obtain ⟨n, h⟩ := h
  obtain ⟨n2, h2⟩ := h2
  have e := h (max n n2) (by omega)
  rw [h2 (max n n2) (by omega)] at e
  exact (Option.some.inj e).symm

theorem evT_below (C : Ctx) : Below C (evT C) := by
  intro f xs H r h
  unfold evT at h
  split at h
  · rename_i hx
    rw [← Option.some.inj h]
    exact Classical.choose_spec hx
  · cases h

theorem evT_eq {C : Ctx} {f : Nat} {xs : List AV} {H : Heap} {r : AV × Heap} (h : Ev1 C f xs H r) : evT C f xs H = some r := by
  have hx : ∃ r, Ev1 C f xs H r := ⟨r, h⟩
  unfold evT
  rw [dif_pos hx]
  exact congrArg some (Ev1.one (Classical.choose_spec hx) h)

section
variable {C : Ctx} {f : Nat} {H : Heap}

theorem wrap_newQ {lents : List Lent} {v : AV} {H1 : Heap} {o g : Nat} {ob : Obj} (hi : ids v = [o]) (ht : tags v = []) (hl : live H1 o g = some ob) (hob : ob.ids = false) (hp : ids ob.p = []) (hp2 : tags ob.p = []) (hto : tagsOb ob = [0]) (htg : ob.tg = 0) :
    wrap H [] lents v H1 = some (ren (fun o' g' => if o' = o ∧ g' = g then some (H.length, 0) else none) (fun t => t) v, H ++ [some (fresh ob)]) := by
  obtain ⟨h1, h2⟩ := live_iff.1 hl
  unfold wrap
  have hat : obAt H1 o = some ob := by simp [obAt, h1]
  have hρ : ren (backN H [] [o] H1) (backT lents) v = ren (fun o' g' => if o' = o ∧ g' = g then some (H.length, 0) else none) (fun t => t) v := by
    have key : ∀ o' g', o' ∈ ids v → backN H [] [o] H1 o' g' = if o' = o ∧ g' = g then some (H.length, 0) else none := by
      intro o' g' hm
      rw [hi] at hm
      simp only [List.mem_singleton] at hm
      subst hm
      unfold backN
      by_cases hg : g' = g
      · subst hg
        rw [hl]
        simp [idxOf]
      · have : live H1 o' g' = none := by
          simp only [live, h1]
          rw [if_neg (fun e => hg (e.symm.trans h2))]
        rw [this]
        simp [hg]
    exact ren_same v (fun o' g' hm => key o' g' hm) (by simp [ht])
  simp only [List.length_nil, List.range_zero, List.nil_append, hi, reach_one h1 hob, ht, tagsObjs, List.append_nil, List.map_nil, hat, hto, List.map_cons, Nat.zero_le, decide_true, List.filter_cons_of_pos, List.filter_nil, strike, putBack]
  have h0 : backTag lents 0 = some 0 := rfl
  simp only [List.all_cons, List.all_nil, h0, Option.isSome_some, Bool.and_true, if_true, List.flatMap_cons, List.flatMap_nil, goneOf, List.append_nil, strike, Option.map_some, Option.some.injEq, Prod.mk.injEq]
  refine ⟨hρ, ?_⟩
  have hr : ren (backN H [] [o] H1) (backT lents) ob.p = ob.p := ren_flat ob.p hp (fun t h => by rw [hp2] at h; cases h)
  simp only [renObj, hr, AM.fresh, htg]
  rfl

variable {T : Cf}

theorem Ev1.freshQ (hT : Below C T) {args : List AV} {fn : Func} {c : Code} {as : List AV} {lents : List Lent} {out : Out} {l : List AV} {o g : Nat} {ob : Obj}
    (hF : C.P.funcs[f]? = some fn) (hb : fn.body = some c) (hl : lendArgs C f H 0 args = some (as, lents)) (hi : idsL as = []) (hn : as.length + 1 < gtag)
    (he : Run C T f 0 c (numbered 0 (coerce C as (paramsOf C f))) [] out) (hex : out.ex = .normal ∨ out.ex = .ret) (hr : resultsV C out.fr out.H fn.results.toList = some l)
    (hv : ids (resultV l) = [o]) (ht : tags (resultV l) = []) (ho : live out.H o g = some ob) (hob : ob.ids = false) (hp : ids ob.p = []) (hp2 : tags ob.p = []) (hto : tagsOb ob = [0]) (htg : ob.tg = 0) :
    Ev1 C f args H (ren (fun o' g' => if o' = o ∧ g' = g then some (H.length, 0) else none) (fun t => t) (resultV l), H ++ [some (AM.fresh ob)]) := by
  refine Ev1.of hT hF hb hl ?_ ?_ hex hr ?_
  · rw [hi, reach_none]
    simp only [Bool.and_eq_true, decide_eq_true_eq]
    exact ⟨List.all_eq_true.2 fun x _ => disjoint_nil x.objs, hn⟩
  · rw [hi, reach_none, renL_flat as hi (fun _ _ => rfl)]
    exact he
  · rw [hi, reach_none]
    exact wrap_newQ hv ht ho hob hp hp2 hto htg

end

/-- an object that holds a row's payload, plain -/
structure Holds (p : AV) (ob : Obj) : Prop where
  p : ob.p = p
  g : ob.g = 0
  row : ob.row = true
  ids : ob.ids = false
  tg : ob.tg = 0

/-- a call tried on an empty heap, with arguments that name no object, over a table -/
theorem Ev1.tried {C : Ctx} {T : Cf} (hT : Below C T) {n f : Nat} {args : List AV} {v : AV} {N : Heap} (h : rowRun C T n ⟨f, args, v, N⟩ = true) (H : Heap) : Ev1 C f args H (shiftV H.length v, H ++ shiftH H.length N) := by
  have := RowsOk.cons hT RowsOk.nil h
  obtain ⟨h1, h2⟩ := this _ (List.mem_singleton.2 rfl)
  exact Ev1.frame h1 h2 H

/-- the same, of a plain value -/
theorem Ev1.triedP {C : Ctx} {T : Cf} (hT : Below C T) {n f : Nat} {args : List AV} {v : AV} (h : rowRun C T n ⟨f, args, v, []⟩ = true) (hv : flatV v = true) (H : Heap) : Ev1 C f args H (v, H) := by
  have := Ev1.tried hT h H
  rw [show shiftV H.length v = v from ren_flat v (flat_ids hv).1 (fun _ _ => rfl)] at this
  simpa [shiftH] using this

/-- a call tried on each of a range -/
theorem Ev1.each {C : Ctx} {T : Cf} (hT : Below C T) {n f N : Nat} {a v : Nat → AV} (h : (List.range N).all (fun k => rowRun C T n ⟨f, [a k], v k, []⟩) = true) (hv : ∀ k, flatV (v k) = true) {k : Nat} (hk : k < N) (H : Heap) : Ev1 C f [a k] H (v k, H) :=
  Ev1.triedP hT (List.all_eq_true.1 h k (List.mem_range.2 hk)) (hv k) H

theorem cat_at (H : Heap) (x : Option Obj) : (H ++ [x])[List.length H]? = some x := by simp
theorem cat_set (H : Heap) (x y : Option Obj) : (H ++ [x]).set (List.length H) y = H ++ [y] := by simp

/-- code ends with an outcome of which Q holds -/
def Tells (Q : Out → Prop) (C : Ctx) (T : Cf) (f m : Nat) (c : Code) (fr : Frame) (H : Heap) : Prop := ∃ o, Q o ∧ Run C T f m c fr H o

/-- code goes on, with a frame and a heap of which P holds -/
def Goes (P : Frame → Heap → Prop) (o : Out) : Prop := o.ex = .normal ∧ P o.fr o.H
/-- code leaves the block id so -/
def Exits (id : Nat) (P : Frame → Heap → Prop) (o : Out) : Prop := o.ex = .exit id ∧ P o.fr o.H
/-- code returns so -/
def Rets (P : Frame → Heap → Prop) (o : Out) : Prop := o.ex = .ret ∧ P o.fr o.H

section
variable {Q : Out → Prop} {C : Ctx} {T : Cf} {f m : Nat} {fr : Frame} {H : Heap}

theorem Tells.of {c : Code} {o : Out} (h : Run C T f m c fr H o) (hq : Q o) : Tells Q C T f m c fr H := ⟨o, hq, h⟩

theorem Tells.seq {a b : Code} {fr' : Frame} {H' : Heap} (h : Run C T f m a fr H ⟨.normal, fr', H'⟩) (h' : Tells Q C T f m b fr' H') : Tells Q C T f m (.seq a b) fr H := by
  obtain ⟨o, hq, ho⟩ := h'
  exact ⟨o, hq, Run.seq h ho⟩

theorem Tells.andThen {a b : Code} {P : Frame → Heap → Prop} (h : Tells (Goes P) C T f m a fr H) (h' : ∀ fr' H', P fr' H' → Tells Q C T f m b fr' H') : Tells Q C T f m (.seq a b) fr H := by
  obtain ⟨⟨ex, fr1, H1⟩, ⟨he, hp⟩, ho⟩ := h
  simp only at he hp
  subst he
  exact Tells.seq ho (h' _ _ hp)

theorem Tells.block {id : Nat} {c : Code} {P : Frame → Heap → Prop} (h : Tells (Exits id P) C T f m c fr H) : Tells (Goes P) C T f m (.block id c) fr H := by
  obtain ⟨⟨ex, fr1, H1⟩, ⟨he, hp⟩, ho⟩ := h
  simp only at he hp
  subst he
  exact ⟨_, ⟨rfl, hp⟩, Run.block_exit ho⟩

theorem Tells.assoc {a b c : Code} (h : Tells Q C T f m (.seq a (.seq b c)) fr H) : Tells Q C T f m (.seq (.seq a b) c) fr H := by
  obtain ⟨o, hq, k, hk⟩ := h
  refine ⟨o, hq, k, ?_⟩
  simp only [exec] at hk ⊢
  rw [← hk]
  cases ha : exec C T f m k a fr H with
  | none => rfl
  | some r =>
    obtain ⟨ex, fr', H'⟩ := r
    cases ex with
    | normal => rfl
    | exit id => rfl
    | ret => rfl

/-- a block that is left by its end, or returns; and what stands behind it -/
theorem Tells.blockThen {id : Nat} {c b : Code} {P : Frame → Heap → Prop} (h : Tells (fun o => Exits id P o ∨ (o.ex = .ret ∧ Q o)) C T f m c fr H) (h' : ∀ fr' H', P fr' H' → Tells Q C T f m b fr' H') : Tells Q C T f m (.seq (.block id c) b) fr H := by
  obtain ⟨⟨ex, fr1, H1⟩, hq, ho⟩ := h
  rcases hq with ⟨he, hp⟩ | ⟨he, hq⟩
  · simp only at he hp
    subst he
    exact Tells.seq (Run.block_exit ho) (h' _ _ hp)
  · simp only at he
    subst he
    exact ⟨_, hq, Run.seq_out (Run.block ho (by simp)) (by simp)⟩

/-- a loop by its states -/
theorem Tells.loop {c : Code} {σ : Type} (I : σ → Prop) (fr : σ → Frame) (H : σ → Heap) (μ : σ → Nat)
    (step : ∀ s, I s → (∃ s', I s' ∧ Run C T f m c (fr s) (H s) ⟨.normal, fr s', H s'⟩ ∧ μ s' < μ s) ∨ (∃ o, Q o ∧ o.ex ≠ .normal ∧ Run C T f m c (fr s) (H s) o)) (s : σ) (hs : I s) :
    Tells Q C T f m (.loop c) (fr s) (H s) := by
  generalize hn : μ s = n
  induction n using Nat.strongRecOn generalizing s with
  | _ n ih =>
    rcases step s hs with ⟨s', h0, h1, h3⟩ | ⟨o, hq, h1, h2⟩
    · obtain ⟨o, hq, ho⟩ := ih (μ s') (by omega) s' h0 rfl
      exact ⟨o, hq, Run.loop_step h1 ho⟩
    · exact ⟨o, hq, Run.loop_out h2 h1⟩

end

end Go.AM

/- Slices of bytes that are handed to a call, whatever their form; objects that hold bytes. -/
namespace Go.AM

/-- a payload of bytes; of none, the nil slice's too -/
def PB (p : AV) (l : List UInt8) : Prop := p = .pb l ∨ (p = .pn ∧ l = [])

/-- a row's object, of this payload, behind g turns -/
structure Rw (p : AV) (g : Nat) (ob : Obj) : Prop where
  p : ob.p = p
  g : ob.g = g
  row : ob.row = true
  ids : ob.ids = false
  tg : ob.tg = 0

/-- lent, the value reads as these bytes; none of them if it is nil -/
def Byt (H : Heap) (a : AV) (l : List UInt8) : Prop :=
  ∃ c p, PB p l ∧ (c = 0 → l = []) ∧ ∀ t, ∃ x, lendV H t a = some (.ro c p t, x)

theorem PB.plen {p : AV} {l : List UInt8} (h : PB p l) : plen p = l.length := by
  rcases h with rfl | ⟨rfl, rfl⟩ <;> rfl

theorem PB.ids {p : AV} {l : List UInt8} (h : PB p l) : ids p = [] := by
  rcases h with rfl | ⟨rfl, rfl⟩ <;> rfl

theorem Byt.ro {H : Heap} {c t : Nat} {p : AV} {l : List UInt8} (h : PB p l) (hc : c = 0 → l = []) : Byt H (.ro c p t) l :=
  ⟨c, p, h, hc, fun _ => ⟨⟨[], [t]⟩, rfl⟩⟩

theorem Byt.nil {H : Heap} : Byt H (.ro 0 .pn 0) [] := Byt.ro (.inr ⟨rfl, rfl⟩) (fun _ => rfl)

theorem Byt.sl {H : Heap} {o off len g : Nat} {ob : Obj} {m l : List UInt8} (ho : H[o]? = some (some ob)) (h : Rw (.pb m) g ob) (hl : (m.drop off).take len = l) (hle : off + len ≤ m.length) : Byt H (.sl o off len g) l := by
  have hlive : live H o g = some ob := by simp [live, ho, h.g]
  refine ⟨if ob.z = 0 ∧ AM.plen ob.p = 0 then 0 else 2, .pb l, .inl rfl, fun h0 => ?_, fun t => ⟨⟨[o], [ob.tg]⟩, ?_⟩⟩
  · split at h0
    · rename_i hz
      have hm : m.length = 0 := by have := hz.2; rw [h.p] at this; exact this
      have : m = [] := List.eq_nil_of_length_eq_zero hm
      subst this
      rw [← hl]; simp
    · cases h0
  · simp only [lendV, lend1, hlive, h.ids, h.p, psub]
    rw [if_pos hle, hl]
    rfl

theorem Byt.whole {H : Heap} {o g : Nat} {ob : Obj} {l : List UInt8} (ho : H[o]? = some (some ob)) (h : Rw (.pb l) g ob) : Byt H (.sl o 0 l.length g) l :=
  Byt.sl ho h (by simp) (by omega)

section
variable {C : Ctx} {f : Nat} {H : Heap}

theorem args_byt {i : Nat} {a : AV} {l : List UInt8} {r as : List AV} {xs : List Lent} (hrw : C.rw f i = false) (h : Byt H a l) (hr : lendArgs C f H (i + 1) r = some (as, xs)) :
    ∃ c p x, PB p l ∧ (c = 0 → l = []) ∧ lendArgs C f H i (a :: r) = some (.ro c p (i + 1) :: as, x :: xs) := by
  obtain ⟨c, p, hp, hc, hl⟩ := h
  obtain ⟨x, hx⟩ := hl (i + 1)
  exact ⟨c, p, x, hp, hc, by simp only [lendArgs, hrw, hx, hr]⟩

/-- bytes appended to a slice that a variable holds -/
theorem app_rw {T e : Nat} (hT : und C T = .slice e) (he : und C e = .int .u8) (hs : sizeT C e = 1) (hb : bytesT C e = 1) (hz : zeroOk C e = true) {o g : Nat} {ob : Obj} {l m : List UInt8} {src : AV}
    (ho : H[o]? = some (some ob)) (h : Rw (.pb l) g ob) (hsrc : srcV H src = some (.pb m, 0) ∨ (srcV H src = some (.pn, 0) ∧ m = [])) (hn : l.length + m.length ≤ 100000000) :
    ∃ ob', Rw (.pb (l ++ m)) (g + 1) ob' ∧ appendV C H T (.sl o 0 l.length g) src = some (.sl o 0 (l.length + m.length) (g + 1), upd H o (some ob')) := by
  have hlive : live H o g = some ob := by simp [live, ho, h.g]
  have hroom : roomOk C e (l.length + m.length) = true := by simp [roomOk, hb]; omega
  obtain ⟨p, hp1, hp2⟩ : ∃ p, srcV H src = some (p, 0) ∧ PB p m := by
    rcases hsrc with h1 | ⟨h1, h2⟩
    · exact ⟨_, h1, .inl rfl⟩
    · exact ⟨_, h1, .inr ⟨rfl, h2⟩⟩
  have hpl := hp2.plen
  have hpa : papp (.pb l) p = some (.pb (l ++ m)) := by
    rcases hp2 with rfl | ⟨rfl, rfl⟩
    · rfl
    · simp [papp]
  refine ⟨{ ob with p := .pb (l ++ m), g := g + 1, cap := (match ob.cap with | some c => if 0 + l.length + AM.plen p ≤ c then some (c - 0) else none | none => none), z := (if AM.plen ob.p = 0 then ob.z else 1), tg := 0 }, ⟨rfl, rfl, h.row, h.ids, rfl⟩, ?_⟩
  unfold appendV
  simp only [hT, hs, hz, hp1, hlive, h.row, h.ids, h.p, h.tg]
  simp only [show ¬ ((1 : Nat) = 0 ∨ true = false) by simp, if_false]
  have hc : True ∧ True ∧ 0 + l.length = AM.plen (.pb l) ∧ pesz (.pb l) = 1 ∧ roomOk C e (l.length + AM.plen p) = true := ⟨trivial, trivial, by simp [AM.plen], rfl, by rw [hpl]; exact hroom⟩
  rw [if_pos hc]
  simp only [psub, Nat.zero_add, Nat.le_refl, if_true, List.drop_zero, List.take_length, hpa, joinTag, pesz]
  simp [hpl]
  rfl

end

section
variable {C : Ctx} {f : Nat} {H : Heap} {T : Cf}

theorem ids_result {l : List AV} (h : noTups l = true) : ids (resultV l) = idsL l := by
  unfold resultV
  split
  · simp [idsL]
  · rw [if_pos h]; rfl

theorem tags_result {l : List AV} (h : noTups l = true) : tags (resultV l) = tagsL l := by
  unfold resultV
  split
  · simp [tagsL]
  · rw [if_pos h]; rfl

theorem ren_result {ρ : Nat → Nat → Option (Nat × Nat)} {τ : Nat → Nat} {v w : AV} {rest : List AV} (hv : ren ρ τ v = w) (hr : renL ρ τ rest = rest) (h : noTups (v :: rest) = true) (h2 : noTups (w :: rest) = true) : ren ρ τ (resultV (v :: rest)) = resultV (w :: rest) := by
  cases rest with
  | nil => exact hv
  | cons a r =>
    show ren ρ τ (if noTups (v :: a :: r) then .tup (v :: a :: r) else .top) = (if noTups (w :: a :: r) then .tup (w :: a :: r) else .top)
    rw [if_pos h, if_pos h2]
    show AV.tup (ren ρ τ v :: renL ρ τ (a :: r)) = _
    rw [hv, hr]

/-- a call that tells a new slice of bytes, and plain values behind it -/
theorem Ev1.newB (hT : Below C T) {args xs : List AV} {lents : List Lent} {fn : Func} {c : Code} {n : Nat} {l : List UInt8} {rest : List AV}
    (hF : C.P.funcs[f]? = some fn) (hb : fn.body = some c) (hl : lendArgs C f H 0 args = some (xs, lents)) (hi : idsL xs = []) (hn : xs.length + 1 < gtag) (hri : idsL rest = []) (hrt : tagsL rest = []) (hnt : noTups rest = true)
    (h : Tells (Rets fun fr H1 => ∃ o g ob, resultsV C fr H1 fn.results.toList = some (.sl o 0 n g :: rest) ∧ H1[o]? = some (some ob) ∧ Rw (.pb l) g ob) C T f 0 c (numbered 0 (coerce C xs (paramsOf C f))) []) :
    ∃ ob', Rw (.pb l) 0 ob' ∧ Ev1 C f args H (resultV (.sl H.length 0 n 0 :: rest), H ++ [some ob']) := by
  obtain ⟨⟨ex, fr, H1⟩, ⟨he, o, g, ob, hr, ho, hw⟩, hrun⟩ := h
  simp only at he hr ho
  subst he
  refine ⟨AM.fresh ob, ⟨hw.p, rfl, hw.row, hw.ids, rfl⟩, ?_⟩
  have := Ev1.fresh (H := H) hT hF hb hl hi hn hrun (.inr rfl) hr (o := o) (g := g) (ob := ob) (by rw [ids_result (l := .sl o 0 n g :: rest) hnt]; simp [idsL, ids, hri]) (by rw [tags_result (l := .sl o 0 n g :: rest) hnt]; simp [tagsL, tags, hrt]) (by simp [live, ho, hw.g]) hw.ids (by rw [hw.p]; rfl) hw.tg
  rw [ren_result (w := .sl H.length 0 n 0) (by simp [ren]) (renL_flat rest hri (fun t ht => rfl)) (by exact hnt) (by exact hnt)] at this
  exact this

/-- a call that tells plain values -/
theorem Ev1.toldP (hT : Below C T) {args xs : List AV} {lents : List Lent} {fn : Func} {c : Code} {l : List AV}
    (hF : C.P.funcs[f]? = some fn) (hb : fn.body = some c) (hl : lendArgs C f H 0 args = some (xs, lents)) (hi : idsL xs = []) (hn : xs.length + 1 < gtag) (hri : idsL l = []) (hrt : tagsL l = []) (hnt : noTups l = true)
    (h : Tells (Rets fun fr H1 => resultsV C fr H1 fn.results.toList = some l) C T f 0 c (numbered 0 (coerce C xs (paramsOf C f))) []) : Ev1 C f args H (resultV l, H) := by
  obtain ⟨⟨ex, fr, H1⟩, ⟨he, hr⟩, hrun⟩ := h
  simp only at he hr
  subst he
  exact Ev1.plain hT hF hb hl hi hn hrun (.inr rfl) hr (by rw [ids_result hnt]; exact hri) (by rw [tags_result hnt]; exact hrt)

end

section
variable {C : Ctx} {T : Cf} {f m : Nat} {fr fr' fr2 : Frame} {H H' : Heap} {ms : List Mark}

/-- a region whose order is drawn, by the marks of its operations -/
theorem Run.dy {id : Nat} {ops : Array Oper} {l : List Nat} (hdy : C.dy f id = true) (hk : C.keep f id = some l) (hn : C.norm f id = false)
    (h : runD C T (ntOf C f) ops ops.toList fr H = some (fr', H', ms)) (hm : marksOk (Region.before ops) ms = true) (hf : keepF l fr' = fr2) : Run C T f m (.region id ops true) fr H ⟨.normal, fr2, H'⟩ := by
  refine ⟨0, ?_⟩
  simp only [exec, hdy, Bool.true_and, if_true, h, hm, afterRegion, hk, hn, hf]
  rfl

end

section
variable {C : Ctx} {f : Nat} {H : Heap} {T : Cf}

end

end Go.AM

/- Arguments of laws: a slice of bytes, with what its kind says; numbers. -/
namespace Go.AM
open Go.ChangeShapes Go.WideShapes Go.ChangeAt Go.RowKit

section
variable {H : Type} {enc : TypeId × Value → H} {P : Program} {W : World}

/-- a slice of bytes -/
theorem arg_bytes0 {base : Nat} {t e : TypeId} {v : Value} {d : DataW H} {ps : List MemPlace} (ht : P.underlying t = some (.slice e)) (he : P.underlying e = some (.int .u8)) (hc : P.cellsOf e = 1)
    (hval : Value.okWide P W .any base t v) (hd : DataW.Trod enc P W 0 (fun _ => true) true t v d ps) :
    ∃ (c : Nat) (l : List UInt8), (c = 0 → l = []) ∧ l.length ≤ maxLen ∧ VRel (start W) (T0 W.heap.size) (.ro c (.pb l) 1) v := by
  obtain ⟨a0, len0, cap0, rfl⟩ := okWide_slice ht hval
  obtain ⟨fuel, hf⟩ := hd
  rcases Go.ChangeShapes.open_ints ht he hc hf with ⟨hcs, _⟩ | ⟨a, len, cap, zs, hcs, _, hlc, hcm, hzl, _, hcell, hwf⟩
  · simp [Value.cells] at hcs
    obtain ⟨rfl, rfl, rfl⟩ := hcs
    exact ⟨0, [], fun _ => rfl, by simp, ro_rel (l := []) ⟨Nat.le_refl _, fun _ => ⟨rfl, rfl⟩, fun h => absurd rfl h, fun h => by simp at h⟩ (fun a ha => by cases ha)⟩
  · simp [Value.cells] at hcs
    obtain ⟨rfl, rfl, rfl⟩ := hcs
    simp only [if_true] at hzl
    have hlen : ((zs.take len0).map fun n => UInt8.ofNat n.toNat).length = len0 := by simp; omega
    refine ⟨2, ((zs.take len0).map fun n => UInt8.ofNat n.toNat), (fun h => by cases h), by rw [hlen]; omega, ?_⟩
    have := ro_rel (W := W) (c := 2) (l := (zs.take len0).map fun n => UInt8.ofNat n.toNat) (ad := some a) (cap := cap0) ⟨by rw [hlen]; exact hlc, fun h => by simp at h, fun _ => rfl, fun h => by simp at h⟩ (by
      intro a' ha' hn
      simp only [Option.some.injEq] at ha'
      subst ha'
      rw [hlen] at hn
      have h0 := hcell 0 (by omega)
      have hsp : a.spot = none := by
        have := World.cell?_spot h0
        simpa [Addr.add] using this
      obtain ⟨b, off, spot⟩ := a
      simp only at hsp
      subst hsp
      refine ⟨rfl, ?_, fun j x hx => ?_⟩
      · rw [add_plain] at h0
        exact block_lt_of_cell h0
      · rw [List.getElem?_map] at hx
        cases hz : (zs.take len0)[j]? with
        | none => rw [hz] at hx; cases hx
        | some z =>
          rw [hz] at hx
          simp only [Option.map_some, Option.some.injEq] at hx
          have hjl : j < len0 := by
            have := (List.getElem?_eq_some_iff.1 hz).1
            simp at this
            omega
          rw [List.getElem?_take_of_lt hjl] at hz
          have hzmem := List.mem_of_getElem? hz
          obtain ⟨q1, q2⟩ := u8_wf (hwf z hzmem)
          have := hcell j (by omega)
          rw [add_plain] at this
          rw [this, List.getD_eq_getElem?_getD, hz, Option.getD_some, ← hx]
          have : ((UInt8.ofNat z.toNat).toNat : Int) = z := by
            rw [UInt8.toNat_ofNat', Nat.mod_eq_of_lt (by simp; omega)]
            omega
          rw [this])
    rw [hlen] at this
    exact this

end

end Go.AM

/- A call that is handed a slice of its own (Ctx.rw), leaves it as it was, and tells plain values. -/
namespace Go.AM

section
variable {C : Ctx} {f : Nat} {H : Heap} {T : Cf}

/-- the bytes of a part of an object -/
theorem Byt.part {o off len g : Nat} {ob : Obj} {m l : List UInt8} (ho : H[o]? = some (some ob)) (hg : ob.g = g) (hp : ob.p = .pb m) (hi : ob.ids = false) (hl : (m.drop off).take len = l) (hle : off + len ≤ m.length) : Byt H (.sl o off len g) l := by
  have hlive : live H o g = some ob := by simp [live, ho, hg]
  refine ⟨if ob.z = 0 ∧ AM.plen ob.p = 0 then 0 else 2, .pb l, .inl rfl, fun h0 => ?_, fun t => ⟨⟨[o], [ob.tg]⟩, ?_⟩⟩
  · split at h0
    · rename_i hz
      have hm : m.length = 0 := by have := hz.2; rw [hp] at this; exact this
      have : m = [] := List.eq_nil_of_length_eq_zero hm
      subst this
      rw [← hl]; simp
    · cases h0
  · simp only [lendV, lend1, hlive, hi, hp, psub]
    rw [if_pos hle, hl]
    rfl

end

end Go.AM

/- A call that is handed a slice of its own (Ctx.rw), appends to it, and hands it back. -/
namespace Go.AM

section
variable {C : Ctx} {f : Nat} {H : Heap} {T : Cf}

/-- a row's object, of this payload, behind g turns, borrowed under t -/
structure RwT (p : AV) (g t : Nat) (ob : Obj) : Prop where
  p : ob.p = p
  g : ob.g = g
  row : ob.row = true
  ids : ob.ids = false
  tg : ob.tg = t

/-- bytes appended to a slice that was handed over -/
theorem app_rwt {T e : Nat} (hT : und C T = .slice e) (he : und C e = .int .u8) (hs : sizeT C e = 1) (hb : bytesT C e = 1) (hz : zeroOk C e = true) {o g t : Nat} {ob : Obj} {l m : List UInt8} {src : AV}
    (ho : H[o]? = some (some ob)) (h : RwT (.pb l) g t ob) (hsrc : srcV H src = some (.pb m, 0) ∨ (srcV H src = some (.pn, 0) ∧ m = [])) (hn : l.length + m.length ≤ 100000000) :
    ∃ ob', RwT (.pb (l ++ m)) (g + 1) t ob' ∧ appendV C H T (.sl o 0 l.length g) src = some (.sl o 0 (l.length + m.length) (g + 1), upd H o (some ob')) := by
  have hlive : live H o g = some ob := by simp [live, ho, h.g]
  have hroom : roomOk C e (l.length + m.length) = true := by simp [roomOk, hb]; omega
  obtain ⟨p, hp1, hp2⟩ : ∃ p, srcV H src = some (p, 0) ∧ PB p m := by
    rcases hsrc with h1 | ⟨h1, h2⟩
    · exact ⟨_, h1, .inl rfl⟩
    · exact ⟨_, h1, .inr ⟨rfl, h2⟩⟩
  have hpl := hp2.plen
  have hpa : papp (.pb l) p = some (.pb (l ++ m)) := by
    rcases hp2 with rfl | ⟨rfl, rfl⟩
    · rfl
    · simp [papp]
  have hj : joinTag t 0 = some t := by
    unfold joinTag
    by_cases h0 : t = 0
    · rw [if_pos h0, h0]
    · rw [if_neg h0, if_pos (.inl rfl)]
  refine ⟨{ ob with p := .pb (l ++ m), g := g + 1, cap := (match ob.cap with | some c => if 0 + l.length + AM.plen p ≤ c then some (c - 0) else none | none => none), z := (if AM.plen ob.p = 0 then ob.z else 1), tg := t }, ⟨rfl, rfl, h.row, h.ids, rfl⟩, ?_⟩
  unfold appendV
  simp only [hT, hs, hz, hp1, hlive, h.row, h.ids, h.p, h.tg]
  simp only [show ¬ ((1 : Nat) = 0 ∨ true = false) by simp, if_false]
  have hc : True ∧ True ∧ 0 + l.length = AM.plen (.pb l) ∧ pesz (.pb l) = 1 ∧ roomOk C e (l.length + AM.plen p) = true := ⟨trivial, trivial, by simp [AM.plen], rfl, by rw [hpl]; exact hroom⟩
  rw [if_pos hc]
  simp only [psub, Nat.zero_add, Nat.le_refl, if_true, List.drop_zero, List.take_length, hpa, hj, pesz]
  simp [hpl]
  rfl

theorem RwT.rw {p : AV} {g : Nat} {ob : Obj} (h : RwT p g 0 ob) : Rw p g ob := ⟨h.p, h.g, h.row, h.ids, h.tg⟩
theorem Rw.rwt {p : AV} {g : Nat} {ob : Obj} (h : Rw p g ob) : RwT p g 0 ob := ⟨h.p, h.g, h.row, h.ids, h.tg⟩

end

end Go.AM

/- Code that ends so that something holds: loops by a property of each round, parts one behind the other. -/
namespace Go.AM

section
variable {Q Q' : Out → Prop} {C : Ctx} {T : Cf} {f m : Nat} {fr : Frame} {H : Heap}

theorem Tells.mono {c : Code} (h : Tells Q C T f m c fr H) (hq : ∀ o, Q o → Q' o) : Tells Q' C T f m c fr H := by
  obtain ⟨o, h1, h2⟩ := h
  exact ⟨o, hq o h1, h2⟩

/-- a loop whose rounds keep I, with a measure that falls -/
theorem Tells.loopP {c : Code} (I : Nat → Frame → Heap → Prop)
    (step : ∀ k fr H, I k fr H → Tells (fun o => (o.ex = .normal ∧ ∃ k', k' < k ∧ I k' o.fr o.H) ∨ (o.ex ≠ .normal ∧ Q o)) C T f m c fr H) {k : Nat} (h : I k fr H) :
    Tells Q C T f m (.loop c) fr H := by
  induction k using Nat.strongRecOn generalizing fr H with
  | _ k ih =>
    obtain ⟨⟨ex, fr1, H1⟩, hq, hr⟩ := step k fr H h
    rcases hq with ⟨he, k', hk, hi⟩ | ⟨he, hq⟩
    · simp only at he hi
      subst he
      obtain ⟨o, hq, ho⟩ := ih k' hk hi
      exact ⟨o, hq, Run.loop_step hr ho⟩
    · exact ⟨_, hq, Run.loop_out hr he⟩

theorem Tells.blk {id : Nat} {c : Code} (h : Tells Q C T f m c fr H) (hq : ∀ o, Q o → o.ex ≠ .exit id) : Tells Q C T f m (.block id c) fr H := by
  obtain ⟨o, h1, h2⟩ := h
  exact ⟨o, h1, Run.block h2 (hq o h1)⟩

/-- what goes on, and what does not -/
def Or2 (P : Frame → Heap → Prop) (Q : Out → Prop) (o : Out) : Prop := (o.ex = .normal ∧ P o.fr o.H) ∨ (o.ex ≠ .normal ∧ Q o)

theorem Tells.or {a b : Code} {P : Frame → Heap → Prop} (h : Tells (Or2 P Q) C T f m a fr H) (h' : ∀ fr' H', P fr' H' → Tells Q C T f m b fr' H') : Tells Q C T f m (.seq a b) fr H := by
  obtain ⟨⟨ex, fr1, H1⟩, hq, hr⟩ := h
  rcases hq with ⟨he, hp⟩ | ⟨he, hq⟩
  · simp only at he hp
    subst he
    exact Tells.seq hr (h' _ _ hp)
  · exact ⟨_, hq, Run.seq_out hr he⟩

theorem Tells.goes {c : Code} {P : Frame → Heap → Prop} (h : Tells (Goes P) C T f m c fr H) : Tells (Or2 P Q) C T f m c fr H := h.mono fun _ h => .inl h

theorem Tells.condT {c : Operand} {a b : Code} (hc : evalO C fr c = .bool true) (h : Tells Q C T f m a fr H) : Tells Q C T f m (.cond c a b) fr H := by
  obtain ⟨o, hq, ho⟩ := h
  exact ⟨o, hq, Run.cond (d := true) hc ho⟩
theorem Tells.condF {c : Operand} {a b : Code} (hc : evalO C fr c = .bool false) (h : Tells Q C T f m b fr H) : Tells Q C T f m (.cond c a b) fr H := by
  obtain ⟨o, hq, ho⟩ := h
  exact ⟨o, hq, Run.cond (d := false) hc ho⟩

/-- a block that is left by an exit of its own, or returns -/
theorem Tells.blockOr {id : Nat} {c : Code} {P : Frame → Heap → Prop} (h : Tells (fun o => Exits id P o ∨ (o.ex = .ret ∧ Q o)) C T f m c fr H) : Tells (Or2 P Q) C T f m (.block id c) fr H := by
  obtain ⟨⟨ex, fr1, H1⟩, hq, hr⟩ := h
  rcases hq with ⟨he, hp⟩ | ⟨he, hq⟩
  · simp only at he hp
    subst he
    exact ⟨_, .inl ⟨rfl, hp⟩, Run.block_exit hr⟩
  · simp only at he
    subst he
    exact ⟨_, .inr ⟨by simp, hq⟩, Run.block hr (by simp)⟩

end

/-- a part of code, by the way to it: 0 the left, 1 the right of a sequence, of a choice; the body of a block, a loop -/
def codeAt : List Nat → Code → Option Code
  | [], c => some c
  | 0 :: r, .seq a _ => codeAt r a
  | _ :: r, .seq _ b => codeAt r b
  | 0 :: r, .cond _ a _ => codeAt r a
  | _ :: r, .cond _ _ b => codeAt r b
  | _ :: r, .block _ c => codeAt r c
  | _ :: r, .loop c => codeAt r c
  | _, _ => none

theorem piece {O : Option Code} {P : Code → Prop} (h : ∃ code, O = some code ∧ P code) (code' : Code) (h' : O = some code') : P code' := by
  obtain ⟨c, h1, h2⟩ := h
  rw [h'] at h1
  exact (Option.some.inj h1) ▸ h2

/-- a bit set in a byte -/
def orB (y : UInt8) (j : Nat) : UInt8 := UInt8.ofNat (y.toNat ||| 2 ^ j)

/-- bits set in bytes, those of which f holds; the first is the bit at off -/
def bitN (f : Nat → Bool) (off : Nat) (x : List UInt8) : Nat → List UInt8
  | 0 => x
  | n + 1 => if f n then (bitN f off x n).set ((n + off) / 8) (orB ((bitN f off x n).getD ((n + off) / 8) 0) ((n + off) % 8)) else bitN f off x n

end Go.AM

/- Calls of a closure over a variable that holds a slice: what is only read comes back as it was. -/
namespace Go.AM

section
variable {C : Ctx} {T : Cf} {f : Nat} {H : Heap}

end

end Go.AM

/- Calls of a closure over a variable that holds a borrowed slice: it comes back as it was. -/
namespace Go.AM

/-- a variable that holds a borrowed slice -/
def roB (c : Nat) (p : AV) (t tg : Nat) : Obj := ⟨.pc [.ro c p t], 0, some 1, 1, false, true, tg⟩

section
variable {C : Ctx} {T : Cf} {f : Nat} {H : Heap}

end

end Go.AM

/- Rows of structs: appended to, lent, told anew. -/
namespace Go.AM

section
variable {C : Ctx} {f : Nat} {H : Heap} {T : Cf}

/-- rows appended to a slice that a variable holds -/
theorem app_rows {T e es : Nat} (hT : und C T = .slice e) (hs : sizeT C e = es) (hes : es ≠ 0) (hb : bytesT C e ≤ 4096) (hz : zeroOk C e = true) {o g : Nat} {ob : Obj} {l m : List AV} {src : AV}
    (ho : H[o]? = some (some ob)) (h : Rw (.pr es l) g ob) (hsrc : srcV H src = some (.pr es m, 0)) (hn : l.length + m.length ≤ 100000000) :
    ∃ ob', Rw (.pr es (l ++ m)) (g + 1) ob' ∧ appendV C H T (.sl o 0 l.length g) src = some (.sl o 0 (l.length + m.length) (g + 1), upd H o (some ob')) := by
  have hlive : live H o g = some ob := by simp [live, ho, h.g]
  have hroom : roomOk C e (l.length + m.length) = true := by
    unfold roomOk
    have : (l.length + m.length) * bytesT C e ≤ 100000000 * 4096 := Nat.mul_le_mul hn hb
    exact decide_eq_true ⟨by omega, by omega⟩
  refine ⟨{ ob with p := .pr es (l ++ m), g := g + 1, cap := (match ob.cap with | some c => if 0 + l.length + AM.plen (.pr es m) ≤ c then some (c - 0) else none | none => none), z := (if AM.plen ob.p = 0 then ob.z else 1), tg := 0 }, ⟨rfl, rfl, h.row, h.ids, rfl⟩, ?_⟩
  unfold appendV
  simp only [hT, hs, hz, hsrc, hlive, h.row, h.ids, h.p, h.tg]
  rw [if_neg (by simp [hes])]
  have hc : True ∧ True ∧ 0 + l.length = AM.plen (.pr es l) ∧ pesz (.pr es l) = es ∧ roomOk C e (l.length + AM.plen (.pr es m)) = true := ⟨trivial, trivial, by simp [AM.plen], rfl, by simpa [AM.plen] using hroom⟩
  rw [if_pos hc]
  simp only [psub, Nat.zero_add, Nat.le_refl, if_true, List.drop_zero, List.take_length, papp, joinTag, pesz]
  simp [AM.plen]
  rfl

/-- a call that tells a new slice of structs, and plain values behind it -/
theorem Ev1.newR (hT : Below C T) {args xs : List AV} {lents : List Lent} {fn : Func} {c : Code} {n es : Nat} {l rest : List AV}
    (hF : C.P.funcs[f]? = some fn) (hb : fn.body = some c) (hl : lendArgs C f H 0 args = some (xs, lents)) (hi : idsL xs = []) (hn : xs.length + 1 < gtag) (hri : idsL rest = []) (hrt : tagsL rest = []) (hnt : noTups rest = true) (hpi : idsL l = []) (hpt : tagsL l = [])
    (h : Tells (Rets fun fr H1 => ∃ o g ob, resultsV C fr H1 fn.results.toList = some (.sl o 0 n g :: rest) ∧ H1[o]? = some (some ob) ∧ Rw (.pr es l) g ob) C T f 0 c (numbered 0 (coerce C xs (paramsOf C f))) []) :
    ∃ ob', Rw (.pr es l) 0 ob' ∧ Ev1 C f args H (resultV (.sl H.length 0 n 0 :: rest), H ++ [some ob']) := by
  obtain ⟨⟨ex, fr, H1⟩, ⟨he, o, g, ob, hr, ho, hw⟩, hrun⟩ := h
  simp only at he hr ho
  subst he
  refine ⟨AM.fresh ob, ⟨hw.p, rfl, hw.row, hw.ids, rfl⟩, ?_⟩
  have := Ev1.freshQ (H := H) hT hF hb hl hi hn hrun (.inr rfl) hr (o := o) (g := g) (ob := ob) (by rw [ids_result (l := .sl o 0 n g :: rest) hnt]; simp [idsL, ids, hri]) (by rw [tags_result (l := .sl o 0 n g :: rest) hnt]; simp [tagsL, tags, hrt]) (by simp [live, ho, hw.g]) hw.ids (by rw [hw.p]; exact hpi) (by rw [hw.p]; exact hpt) (by simp [tagsOb, hw.ids, hw.p, hw.tg]) hw.tg
  rw [ren_result (w := .sl H.length 0 n 0) (by simp [ren]) (renL_flat rest hri (fun t ht => rfl)) (by exact hnt) (by exact hnt)] at this
  exact this

/-- lent, the value reads as these structs; none of them if it is nil -/
def RoRow (H : Heap) (a : AV) (es : Nat) (l : List AV) : Prop :=
  ∃ c p, (p = .pr es l ∨ (p = .pn ∧ l = [])) ∧ (c = 0 → l = []) ∧ ∀ t, ∃ x, lendV H t a = some (.ro c p t, x)

theorem RoRow.ro {c t es : Nat} {l : List AV} (hc : c = 0 → l = []) : RoRow H (.ro c (.pr es l) t) es l :=
  ⟨c, _, .inl rfl, hc, fun _ => ⟨⟨[], [t]⟩, rfl⟩⟩

theorem RoRow.whole {o g es : Nat} {ob : Obj} {l : List AV} (ho : H[o]? = some (some ob)) (h : Rw (.pr es l) g ob) : RoRow H (.sl o 0 l.length g) es l := by
  have hlive : live H o g = some ob := by simp [live, ho, h.g]
  refine ⟨if ob.z = 0 ∧ AM.plen ob.p = 0 then 0 else 2, .pr es l, .inl rfl, fun h0 => ?_, fun t => ⟨⟨[o], [ob.tg]⟩, ?_⟩⟩
  · split at h0
    · rename_i hz
      have hm : l.length = 0 := by have := hz.2; rw [h.p] at this; exact this
      exact List.eq_nil_of_length_eq_zero hm
    · cases h0
  · simp only [lendV, lend1, hlive, h.ids, h.p, psub]
    simp

end

end Go.AM

/- The marks of a drawing region: only the pairs whose order is free are looked at. -/
namespace Go.AM

/-- the pairs whose order is free -/
def freePairs (b : Array Nat) (n : Nat) : List (Nat × Nat) :=
  (List.range n).flatMap fun j => (List.range j).filterMap fun i => if (b.getD j 0).testBit i then none else some (i, j)

/-- do the marks of a pair bear each other? -/
def bearP (ms : List Mark) (p : Nat × Nat) : Bool := match ms[p.1]?, ms[p.2]? with | some x, some y => bear x y | _, _ => false

theorem marksOk_of {b : Array Nat} {ms : List Mark} {ps : List (Nat × Nat)} (h : freePairs b ms.length = ps) (h2 : ps.all (bearP ms) = true) : marksOk b ms = true := by
  unfold marksOk
  rw [List.all_eq_true]
  intro j hj
  rw [List.all_eq_true]
  intro i hi
  cases hb : (b.getD j 0).testBit i with
  | true => rfl
  | false =>
    rw [Bool.false_or]
    subst h
    have := List.all_eq_true.1 h2 (i, j) (by
      unfold freePairs
      rw [List.mem_flatMap]
      exact ⟨j, hj, List.mem_filterMap.2 ⟨i, hi, by rw [hb]; rfl⟩⟩)
    exact this

end Go.AM

/- Rows of one cell each (no numbers): appended to, lent. -/
namespace Go.AM

section
variable {C : Ctx} {f : Nat} {H : Heap} {T : Cf}

/-- lent, the value reads as these cells; none of them if it is nil -/
def RoCel (H : Heap) (a : AV) (l : List AV) : Prop :=
  ∃ c p, (p = .pc l ∨ (p = .pn ∧ l = [])) ∧ (c = 0 → l = []) ∧ ∀ t, ∃ x, lendV H t a = some (.ro c p t, x)

theorem RoCel.ro {c t : Nat} {l : List AV} (hc : c = 0 → l = []) : RoCel H (.ro c (.pc l) t) l :=
  ⟨c, _, .inl rfl, hc, fun _ => ⟨⟨[], [t]⟩, rfl⟩⟩

theorem RoCel.whole {o g : Nat} {ob : Obj} {l : List AV} (ho : H[o]? = some (some ob)) (h : Rw (.pc l) g ob) : RoCel H (.sl o 0 l.length g) l := by
  have hlive : live H o g = some ob := by simp [live, ho, h.g]
  refine ⟨if ob.z = 0 ∧ AM.plen ob.p = 0 then 0 else 2, .pc l, .inl rfl, fun h0 => ?_, fun t => ⟨⟨[o], [ob.tg]⟩, ?_⟩⟩
  · split at h0
    · rename_i hz
      have hm : l.length = 0 := by have := hz.2; rw [h.p] at this; exact this
      exact List.eq_nil_of_length_eq_zero hm
    · cases h0
  · simp only [lendV, lend1, hlive, h.ids, h.p, psub]
    simp

end

end Go.AM

/- Calls of a closure over a variable that it changes: as AmHand's box, the variable last. -/
namespace Go.AM

section
variable {C : Ctx} {f : Nat} {H : Heap} {T : Cf}

end

end Go.AM

/- Calls of a closure over a variable that it changes, that tells a new slice: as AmHand's boxNew, the variable last. -/
namespace Go.AM

section
variable {C : Ctx} {f : Nat} {H : Heap} {T : Cf}

end

end Go.AM

/- Calls that are handed a pointer to an object that leads to others: all of them go in, are worked on, and come back. -/
namespace Go.AM

/-- what comes back lies where it lay -/
theorem putBack_length {ρ : Nat → Nat → Option (Nat × Nat)} {τ : Nat → Nat} {H : Heap} {π : List Nat} {H1 : Heap} : ∀ (l : List Nat) (k : Nat) (B : Heap), (putBack ρ τ H π H1 k l B).length = B.length
  | [], _, _ => rfl
  | o :: r, k, B => by rw [putBack, putBack_length r]; simp [upd]

theorem putBack_ne {ρ : Nat → Nat → Option (Nat × Nat)} {τ : Nat → Nat} {H : Heap} {π : List Nat} {H1 : Heap} {j : Nat} : ∀ (l : List Nat) (k : Nat) (B : Heap), j ∉ l → (putBack ρ τ H π H1 k l B)[j]? = B[j]?
  | [], _, _, _ => rfl
  | o :: r, k, B, h => by
    rw [putBack, putBack_ne r _ _ (fun h2 => h (List.mem_cons_of_mem _ h2))]
    unfold upd
    rw [List.getElem?_set_ne (fun h2 => h (by rw [h2]; exact List.mem_cons_self ..))]

theorem putBack_at {ρ : Nat → Nat → Option (Nat × Nat)} {τ : Nat → Nat} {H : Heap} {π : List Nat} {H1 : Heap} : ∀ (l : List Nat) (k i o : Nat) (B : Heap), l.Nodup → l[i]? = some o → o < B.length →
    (putBack ρ τ H π H1 k l B)[o]? = some ((obAt H1 (k + i)).map fun ob => renObj ρ τ (genBack H π (k + i) ob.g) ob)
  | [], _, i, _, _, _, h, _ => by simp at h
  | a :: r, k, 0, o, B, hn, h, hl => by
    simp at h
    subst h
    rw [List.nodup_cons] at hn
    rw [putBack, putBack_ne r _ _ hn.1]
    unfold upd
    rw [List.getElem?_set_self hl, Nat.add_zero]
  | a :: r, k, i + 1, o, B, hn, h, hl => by
    rw [List.nodup_cons] at hn
    rw [putBack, putBack_at r (k + 1) i o _ hn.2 (by simpa using h) (by simpa [upd] using hl), show k + 1 + i = k + (i + 1) by omega]

section
variable {C : Ctx} {f : Nat} {H : Heap} {T : Cf}

/-- tags within an object -/
def okTags (n : Nat) (ob : Obj) : Prop := (∀ t ∈ tags ob.p, t = 0 ∨ t = n) ∧ (ob.tg = 0 ∨ ob.tg = n)

theorem okTags.ob {n : Nat} {ob : Obj} (h : okTags n ob) (hp : ∀ l, ob.p ≠ .pm l) : ∀ t ∈ tagsOb ob, t = 0 ∨ t = n := by
  intro t ht
  unfold tagsOb at ht
  split at ht
  · exact h.1 t ht
  · rcases List.mem_cons.1 ht with rfl | ht
    · exact h.2
    · split at ht
      · rename_i l hl; exact absurd hl (hp l)
      · simp at ht

end

end Go.AM

/- A call with a pointer: where what lay behind it lies afterwards. -/
namespace Go.AM
set_option linter.unusedSimpArgs false

theorem idxOf_at {k : Nat} : ∀ {new : List Nat}, k ∈ new → ∃ i, new[i]? = some k ∧ ∀ j, idxOf new k j = some (j + i)
  | a :: r, h => by
    by_cases e : a = k
    · subst e
      exact ⟨0, rfl, fun j => by simp [idxOf]⟩
    · have hk : k ∈ r := by
        rcases List.mem_cons.1 h with h | h
        · exact absurd h.symm e
        · exact h
      obtain ⟨i, h1, h2⟩ := idxOf_at hk
      refine ⟨i + 1, by simpa using h1, fun j => ?_⟩
      unfold idxOf
      rw [if_neg e, h2]
      congr 1
      omega

/-- where a callee's object lies afterwards -/
def At (H : Heap) (π new : List Nat) (k o' : Nat) : Prop := (k < π.length ∧ π[k]? = some o') ∨ (π.length ≤ k ∧ ∃ i, new[i]? = some k ∧ o' = H.length + i)

theorem At.inj {H : Heap} {π new : List Nat} {k k2 o o2 : Nat} (hn : π.Nodup) (hlt : ∀ x ∈ π, x < H.length) (h : At H π new k o) (h2 : At H π new k2 o2) (hne : k ≠ k2) : o ≠ o2 := by
  rcases h with ⟨h1, h3⟩ | ⟨h1, i, h3, rfl⟩ <;> rcases h2 with ⟨g1, g3⟩ | ⟨g1, j, g3, rfl⟩
  · intro e
    subst e
    rw [List.getElem?_eq_getElem h1] at h3
    rw [List.getElem?_eq_getElem g1] at g3
    have := (List.getElem_inj hn (h₀ := h1) (h₁ := g1)).1 ((Option.some.inj h3).trans (Option.some.inj g3).symm)
    exact hne this
  · have := hlt o (List.mem_of_getElem? h3)
    omega
  · have := hlt o2 (List.mem_of_getElem? g3)
    omega
  · intro e
    have : i = j := by omega
    subst this
    rw [h3] at g3
    exact hne (Option.some.inj g3)

theorem grp_back {H E : Heap} {π new : List Nat} {τ : Nat → Nat} (hn : π.Nodup) (hlt : ∀ x ∈ π, x < H.length) {k : Nat} {ob : Obj} (hk : obAt E k = some ob) (hm : k < π.length ∨ (π.length ≤ k ∧ k ∈ new)) :
    ∃ o' g', backN H π new E k ob.g = some (o', g') ∧ (putBack (backN H π new E) τ H π E 0 π H ++ new.map fun o => (obAt E o).map (renObj (backN H π new E) τ 0))[o']? = some (some (renObj (backN H π new E) τ g' ob)) ∧ At H π new k o' ∧ (k < π.length → g' = genBack H π k ob.g) := by
  have hl : live E k ob.g = some ob := by
    unfold obAt at hk
    unfold live
    cases h : E[k]? with
    | none => rw [h] at hk; simp at hk
    | some x =>
      cases x with
      | none => rw [h] at hk; simp at hk
      | some y =>
        rw [h] at hk
        simp at hk
        subst hk
        simp
  rcases hm with hm | ⟨hm, hmem⟩
  · obtain ⟨o', ho'⟩ : ∃ o', π[k]? = some o' := ⟨_, List.getElem?_eq_getElem hm⟩
    have hol := hlt o' (List.mem_of_getElem? ho')
    refine ⟨o', genBack H π k ob.g, ?_, ?_, .inl ⟨hm, ho'⟩, fun _ => rfl⟩
    · unfold backN
      rw [hl]
      simp only
      rw [if_pos hm, ho']
      rfl
    · rw [List.getElem?_append_left (by rw [putBack_length]; exact hol)]
      have := putBack_at (ρ := backN H π new E) (τ := τ) (H := H) (π := π) (H1 := E) π 0 k o' H hn ho' hol
      rw [this, Nat.zero_add, hk]
      rfl
  · obtain ⟨i, hi, hj⟩ := idxOf_at hmem
    refine ⟨H.length + i, 0, ?_, ?_, .inr ⟨hm, i, hi, rfl⟩, fun h => by omega⟩
    · unfold backN
      rw [hl]
      simp only
      rw [if_neg (by omega), hj]
      rfl
    · rw [List.getElem?_append_right (by rw [putBack_length]; omega), putBack_length, Nat.add_sub_cancel_left, List.getElem?_map, hi]
      simp [hk]

theorem grp_rest {H E : Heap} {π new : List Nat} {τ : Nat → Nat} {ρ : Nat → Nat → Option (Nat × Nat)} {j : Nat} (hj : j < H.length) (hjp : j ∉ π) : (putBack ρ τ H π E 0 π H ++ new.map fun o => (obAt E o).map (renObj ρ τ 0))[j]? = H[j]? := by
  rw [List.getElem?_append_left (by rw [putBack_length]; exact hj), putBack_ne _ _ _ hjp]

end Go.AM

/- Calls that are handed a group of objects: the group is described by a list in which its objects are numbered anew; what comes back is described so, too. -/
namespace Go.AM
set_option linter.unusedSimpArgs false

/-- names of a group's objects -/
def rhoP (π : List (Nat × Nat)) (k _ : Nat) : Option (Nat × Nat) := π[k]?
def idN (o g : Nat) : Option (Nat × Nat) := some (o, g)
def tz (_ : Nat) : Nat := 0

section
variable {ρ ρ2 ρ3 : Nat → Nat → Option (Nat × Nat)} {τ τ2 τ3 : Nat → Nat}
mutual
theorem ren_ren (h : ∀ o g, (ρ o g).bind (fun x => ρ2 x.1 x.2) = ρ3 o g) (ht : ∀ t, τ2 (τ t) = τ3 t) : (v : AV) → ren ρ2 τ2 (ren ρ τ v) = ren ρ3 τ3 v
  | .ptr o i f g => by
    have h1 := h o g
    simp only [ren]
    rcases e : ρ o g with _ | ⟨a, b⟩
    · rw [e] at h1; simp only [Option.bind_none] at h1; simp [ren, ← h1]
    · rw [e] at h1; simp only [Option.bind_some] at h1; simp [ren, ← h1]
  | .sl o i f g => by
    have h1 := h o g
    simp only [ren]
    rcases e : ρ o g with _ | ⟨a, b⟩
    · rw [e] at h1; simp only [Option.bind_none] at h1; simp [ren, ← h1]
    · rw [e] at h1; simp only [Option.bind_some] at h1; simp [ren, ← h1]
  | .map o g => by
    have h1 := h o g
    simp only [ren]
    rcases e : ρ o g with _ | ⟨a, b⟩
    · rw [e] at h1; simp only [Option.bind_none] at h1; simp [ren, ← h1]
    · rw [e] at h1; simp only [Option.bind_some] at h1; simp [ren, ← h1]
  | .ro c p t => by simp only [ren, ht]
  | .rptr p i f t => by simp only [ren, ht]
  | .agg p => by simp only [ren, ren_ren h ht p]
  | .tup l => by simp only [ren, renL_ren h ht l]
  | .fn f l => by simp only [ren, renL_ren h ht l]
  | .pc l => by simp only [ren, renL_ren h ht l]
  | .pr e l => by simp only [ren, renL_ren h ht l]
  | .pm l => by simp only [ren, renL_ren h ht l]
  | .top => rfl
  | .bool _ => rfl
  | .int _ _ => rfl
  | .str _ => rfl
  | .nilptr => rfl
  | .nilfn => rfl
  | .nilmap => rfl
  | .pn => rfl
  | .pb _ => rfl
  | .pi _ _ => rfl
theorem renL_ren (h : ∀ o g, (ρ o g).bind (fun x => ρ2 x.1 x.2) = ρ3 o g) (ht : ∀ t, τ2 (τ t) = τ3 t) : (l : List AV) → renL ρ2 τ2 (renL ρ τ l) = renL ρ3 τ3 l
  | [] => rfl
  | a :: r => by simp only [renL, ren_ren h ht a, renL_ren h ht r]
end
end

section
variable {π : List (Nat × Nat)} {τ : Nat → Nat}
/-- the object that is numbered k -/
def sg (π : List (Nat × Nat)) (k : Nat) : Nat := (π.getD k (0, 0)).1
mutual
theorem ids_rho : (v : AV) → (∀ o ∈ ids v, o < π.length) → ids (ren (rhoP π) τ v) = (ids v).map (sg π)
  | .ptr o i f g, h => by
    have hl : o < π.length := h o (by simp [ids])
    simp only [ren, rhoP, List.getElem?_eq_getElem hl]
    simp [ids, sg, List.getD, List.getElem?_eq_getElem hl]
  | .sl o i f g, h => by
    have hl : o < π.length := h o (by simp [ids])
    simp only [ren, rhoP, List.getElem?_eq_getElem hl]
    simp [ids, sg, List.getD, List.getElem?_eq_getElem hl]
  | .map o g, h => by
    have hl : o < π.length := h o (by simp [ids])
    simp only [ren, rhoP, List.getElem?_eq_getElem hl]
    simp [ids, sg, List.getD, List.getElem?_eq_getElem hl]
  | .ro c p t, _ => rfl
  | .rptr p i f t, _ => rfl
  | .agg p, h => by simp only [ids] at h; simp only [ren, ids, ids_rho p h]
  | .tup l, h => by simp only [ids] at h; simp only [ren, ids, idsL_rho l h]
  | .fn f l, h => by simp only [ids] at h; simp only [ren, ids, idsL_rho l h]
  | .pc l, h => by simp only [ids] at h; simp only [ren, ids, idsL_rho l h]
  | .pr e l, h => by simp only [ids] at h; simp only [ren, ids, idsL_rho l h]
  | .pm l, h => by simp only [ids] at h; simp only [ren, ids, idsL_rho l h]
  | .top, _ => rfl
  | .bool _, _ => rfl
  | .int _ _, _ => rfl
  | .str _, _ => rfl
  | .nilptr, _ => rfl
  | .nilfn, _ => rfl
  | .nilmap, _ => rfl
  | .pn, _ => rfl
  | .pb _, _ => rfl
  | .pi _ _, _ => rfl
theorem idsL_rho : (l : List AV) → (∀ o ∈ idsL l, o < π.length) → idsL (renL (rhoP π) τ l) = (idsL l).map (sg π)
  | [], _ => rfl
  | a :: r, h => by
    simp only [idsL, List.mem_append] at h
    simp only [renL, idsL, ids_rho a (fun o ho => h o (.inl ho)), idsL_rho r (fun o ho => h o (.inr ho)), List.map_append]
end
end

/-- an object as it is described, but for its tags and a row's room -/
structure Like (t : Nat) (π : List (Nat × Nat)) (g : Nat) (ob0 ob : Obj) : Prop where
  p : ren idN tz ob.p = ren (rhoP π) tz ob0.p
  gen : ob.g = g
  row : ob.row = ob0.row
  ids : ob.ids = ob0.ids
  bx : ob0.row = false → ob.cap = ob0.cap ∧ ob.z = ob0.z ∧ g = 0
  tg : ob.tg = 0 ∨ ob.tg = t
  tp : ∀ k ∈ tags ob.p, k = 0 ∨ k = t

/-- a group of objects lies in a heap -/
structure Img (t : Nat) (H : Heap) (π : List (Nat × Nat)) (S : List Obj) : Prop where
  len : π.length = S.length
  nd : ∀ (j k oj gj ok gk : Nat), π[j]? = some (oj, gj) → π[k]? = some (ok, gk) → oj = ok → j = k
  ob : ∀ (k : Nat) (ob0 : Obj), S[k]? = some ob0 → ∃ o g ob, π[k]? = some (o, g) ∧ H[o]? = some (some ob) ∧ Like t π g ob0 ob

def OkS (S : List Obj) : Prop := ∀ (k : Nat) (ob0 : Obj), S[k]? = some ob0 → ∀ o ∈ ids ob0.p, o < S.length
def pi0 (K : Nat) : List (Nat × Nat) := (List.range K).map fun k => (k, 0)

theorem pi0_at {K k : Nat} : (pi0 K)[k]? = if k < K then some (k, 0) else none := by
  unfold pi0
  rw [List.getElem?_map]
  by_cases h : k < K
  · rw [List.getElem?_range h, if_pos h]; rfl
  · rw [List.getElem?_eq_none (by simpa using h), if_neg h]; rfl

theorem sg_at {π : List (Nat × Nat)} {k o g : Nat} (h : π[k]? = some (o, g)) : sg π k = o := by simp [sg, List.getD, h]

section
variable {t : Nat} {H : Heap} {π : List (Nat × Nat)} {S : List Obj}

theorem Img.at' (h : Img t H π S) {k : Nat} (hk : k < S.length) : ∃ o g ob, π[k]? = some (o, g) ∧ H[o]? = some (some ob) ∧ Like t π g S[k] ob := h.ob k S[k] (List.getElem?_eq_getElem hk)

theorem Img.ids (h : Img t H π S) (hok : OkS S) {k : Nat} {ob0 ob : Obj} {g : Nat} (hk : S[k]? = some ob0) (hl : Like t π g ob0 ob) : AM.ids ob.p = (AM.ids ob0.p).map (sg π) := by
  have h1 : AM.ids (ren idN tz ob.p) = AM.ids ob.p := ids_ren.ids_ren_id ob.p
  rw [← h1, hl.p]
  exact ids_rho _ fun o ho => by rw [h.len]; exact hok k ob0 hk o ho

theorem Img.sg_inj (h : Img t H π S) {j k : Nat} (hj : j < S.length) (hk : k < S.length) (e : sg π j = sg π k) : j = k := by
  obtain ⟨o, g, _, h1, _⟩ := h.at' hj
  obtain ⟨o2, g2, _, h2, _⟩ := h.at' hk
  rw [sg_at h1, sg_at h2] at e
  exact h.nd j k _ _ _ _ h1 h2 e

theorem Img.fst (h : Img t H π S) : π.map Prod.fst = (List.range S.length).map (sg π) := by
  refine List.ext_getElem? fun k => ?_
  rw [List.getElem?_map, List.getElem?_map]
  by_cases hk : k < S.length
  · obtain ⟨o, g, _, h1, _⟩ := h.at' hk
    rw [h1, List.getElem?_range hk]
    simp [sg_at h1]
  · rw [List.getElem?_eq_none (by rw [h.len]; omega), List.getElem?_eq_none (by simpa using hk)]; rfl

theorem Img.nodup (h : Img t H π S) : (π.map Prod.fst).Nodup := by
  rw [h.fst, List.nodup_iff_pairwise_ne, List.pairwise_map]
  have := (List.nodup_iff_pairwise_ne.1 (List.nodup_range (n := S.length)))
  refine List.Pairwise.imp_of_mem ?_ this
  intro a b ha hb hne e
  exact hne (h.sg_inj (List.mem_range.1 ha) (List.mem_range.1 hb) e)

theorem Img.lt (h : Img t H π S) : ∀ x ∈ π.map Prod.fst, x < H.length := by
  intro x hx
  rw [h.fst] at hx
  obtain ⟨k, hk, rfl⟩ := List.mem_map.1 hx
  obtain ⟨o, g, ob, h1, h2, _⟩ := h.at' (List.mem_range.1 hk)
  rw [sg_at h1]
  exact (List.getElem?_eq_some_iff.1 h2).1

theorem Img.fst_at {k o g : Nat} (h : π[k]? = some (o, g)) : (π.map Prod.fst)[k]? = some o := by rw [List.getElem?_map, h]; rfl

/-- what can be reached, in both numberings -/
theorem reach_img (h : Img t H π S) (hok : OkS S) : ∀ (n : Nat) (l acc : List Nat), (∀ o ∈ l, o < S.length) → (∀ o ∈ acc, o < S.length) →
    reach H n (l.map (sg π)) (acc.map (sg π)) = (reach (S.map some) n l acc).map (sg π) ∧ ∀ o ∈ reach (S.map some) n l acc, o < S.length
  | 0, l, acc, _, ha => ⟨rfl, ha⟩
  | n + 1, [], acc, _, ha => ⟨rfl, ha⟩
  | n + 1, o :: r, acc, hl, ha => by
    have ho := hl o (List.mem_cons_self ..)
    obtain ⟨o', g, ob, h1, h2, h3⟩ := h.at' ho
    have hc : (acc.map (sg π)).contains (sg π o) = acc.contains o := by
      rw [Bool.eq_iff_iff]
      simp only [List.contains_iff_mem, List.mem_map]
      constructor
      · rintro ⟨a, h4, h5⟩
        rw [← h.sg_inj (ha a h4) ho h5]; exact h4
      · intro h4; exact ⟨o, h4, rfl⟩
    have hS : (S.map some)[o]? = some (some S[o]) := by rw [List.getElem?_map, List.getElem?_eq_getElem ho]; rfl
    simp only [List.map_cons, reach]
    rw [hc]
    by_cases hm : acc.contains o = true
    · rw [if_pos hm, if_pos hm]
      exact reach_img h hok n r acc (fun x hx => hl x (List.mem_cons_of_mem _ hx)) ha
    · rw [if_neg hm, if_neg hm, hS, sg_at h1, h2]
      simp only
      have hi := h.ids hok (List.getElem?_eq_getElem ho) h3
      have e : (if ob.ids = true then AM.ids ob.p else []) ++ r.map (sg π) = ((if S[o].ids = true then AM.ids S[o].p else []) ++ r).map (sg π) := by
        rw [h3.ids, hi, List.map_append]
        split <;> rfl
      have e2 : acc.map (sg π) ++ [o'] = (acc ++ [o]).map (sg π) := by rw [List.map_append, List.map_cons, List.map_nil, sg_at h1]
      rw [e, e2]
      refine reach_img h hok n _ _ ?_ ?_
      · intro x hx
        rcases List.mem_append.1 hx with hx | hx
        · split at hx
          · exact hok o _ (List.getElem?_eq_getElem ho) x hx
          · cases hx
        · exact hl x (List.mem_cons_of_mem _ hx)
      · intro x hx
        rcases List.mem_append.1 hx with hx | hx
        · exact ha x hx
        · rw [List.mem_singleton.1 hx]; exact ho

theorem idxOf_nodup {l : List Nat} (hn : l.Nodup) : ∀ {k o i : Nat}, l[k]? = some o → idxOf l o i = some (i + k) := by
  induction l with
  | nil => intro k o i h; simp at h
  | cons a r ih =>
    intro k o i h
    rw [List.nodup_cons] at hn
    unfold idxOf
    cases k with
    | zero =>
      simp at h
      rw [if_pos h]; rfl
    | succ k =>
      simp at h
      have : a ≠ o := fun e => hn.1 (e ▸ List.mem_of_getElem? h)
      rw [if_neg this, ih hn.2 h]
      congr 1
      omega

theorem Img.intoN (h : Img t H π S) (k g0 : Nat) : (rhoP π k g0).bind (fun x => AM.intoN H (π.map Prod.fst) x.1 x.2) = rhoP (pi0 S.length) k g0 := by
  unfold rhoP
  rw [pi0_at]
  by_cases hk : k < S.length
  · obtain ⟨o, g, ob, h1, h2, h3⟩ := h.at' hk
    rw [h1, if_pos hk]
    simp only [Option.bind_some]
    have hl : live H o g = some ob := live_iff.2 ⟨h2, h3.gen⟩
    unfold AM.intoN
    rw [hl]
    simp only
    rw [idxOf_nodup h.nodup (Img.fst_at h1)]
    simp
  · rw [List.getElem?_eq_none (by rw [h.len]; omega), if_neg hk]; rfl

/-- the group as a callee finds it -/
theorem Img.into (h : Img t H π S) (n : Nat) : Img n ((π.map Prod.fst).map fun o => (obAt H o).map (renObj (AM.intoN H (π.map Prod.fst)) (fun _ => n) 0)) (pi0 S.length) S where
  len := by simp [pi0]
  nd := by
    intro j k oj gj ok gk h1 h2 e
    rw [pi0_at] at h1 h2
    split at h1
    · split at h2
      · simp only [Option.some.injEq, Prod.mk.injEq] at h1 h2
        omega
      · cases h2
    · cases h1
  ob := by
    intro k ob0 hk
    obtain ⟨o, g, ob, h1, h2, h3⟩ := h.ob k ob0 hk
    have hlt := (List.getElem?_eq_some_iff.1 hk).1
    have ht : ∀ v : AV, ∀ x ∈ tags (ren (AM.intoN H (π.map Prod.fst)) (fun _ => n) v), x = n := by
      intro v x hx
      rw [tags_ren'] at hx
      obtain ⟨_, _, rfl⟩ := List.mem_map.1 hx
      rfl
    refine ⟨k, 0, renObj (AM.intoN H (π.map Prod.fst)) (fun _ => n) 0 ob, by rw [pi0_at, if_pos hlt], ?_, ⟨?_, rfl, h3.row, h3.ids, fun hr => ⟨(h3.bx hr).1, (h3.bx hr).2.1, rfl⟩, .inr rfl, fun x hx => .inr (ht ob.p x hx)⟩⟩
    · rw [List.getElem?_map, Img.fst_at h1]
      simp [obAt, h2]
    · simp only [renObj]
      rw [ren_ren (ρ := AM.intoN H (π.map Prod.fst)) (ρ2 := idN) (τ := fun _ => n) (τ2 := tz) (ρ3 := AM.intoN H (π.map Prod.fst)) (τ3 := tz) (fun o g => by cases AM.intoN H (π.map Prod.fst) o g <;> rfl) (fun _ => rfl)]
      rw [← ren_ren (ρ := idN) (τ := tz) (ρ2 := AM.intoN H (π.map Prod.fst)) (τ2 := tz) (ρ3 := AM.intoN H (π.map Prod.fst)) (τ3 := tz) (fun o g => rfl) (fun _ => rfl) ob.p]
      rw [h3.p]
      exact ren_ren (fun o g => h.intoN o g) (fun _ => rfl) ob0.p

theorem joinTag_two {a b t : Nat} (ha : a = 0 ∨ a = t) (hb : b = 0 ∨ b = t) : ∃ t', (t' = 0 ∨ t' = t) ∧ joinTag a b = some t' := by
  unfold joinTag
  rcases ha with rfl | rfl
  · exact ⟨b, hb, by simp⟩
  · by_cases h0 : a = 0
    · exact ⟨b, hb, by simp [h0]⟩
    · refine ⟨a, .inr rfl, ?_⟩
      rw [if_neg h0, if_pos]
      rcases hb with rfl | rfl
      · exact .inl rfl
      · exact .inr rfl

theorem joinTags_all {t : Nat} : ∀ l : List Nat, (∀ k ∈ l, k = 0 ∨ k = t) → ∃ t', joinTags l = some t' ∧ (t' = 0 ∨ t' = t)
  | [], _ => ⟨0, rfl, .inl rfl⟩
  | k :: r, hl => by
    obtain ⟨t', h1, h2⟩ := joinTags_all r fun x hx => hl x (List.mem_cons_of_mem _ hx)
    obtain ⟨t3, h3, h4⟩ := joinTag_two (hl k (List.mem_cons_self ..)) h2
    exact ⟨t3, by simp [joinTags, h1, h4], h3⟩

theorem Like.tagsOb {g : Nat} {ob0 ob : Obj} (h : Like t π g ob0 ob) : ∀ k ∈ AM.tagsOb ob, k = 0 ∨ k = t := by
  intro k hk
  unfold AM.tagsOb at hk
  split at hk
  · exact h.tp k hk
  · rcases List.mem_cons.1 hk with rfl | hk
    · exact h.tg
    · split at hk
      · rename_i l hl
        refine h.tp k ?_
        rw [hl]; exact hk
      · cases hk

theorem tagsObjs_all {t : Nat} {H : Heap} : ∀ l : List Nat, (∀ o ∈ l, ∀ ob, obAt H o = some ob → ∀ k ∈ AM.tagsOb ob, k = 0 ∨ k = t) → ∀ k ∈ tagsObjs (l.map (obAt H)), k = 0 ∨ k = t
  | [], _, k, hk => by simp [tagsObjs] at hk
  | o :: r, h, k, hk => by
    rw [List.map_cons] at hk
    cases ho : obAt H o with
    | none =>
      rw [ho, tagsObjs] at hk
      exact tagsObjs_all r (fun x hx => h x (List.mem_cons_of_mem _ hx)) k hk
    | some ob =>
      rw [ho, tagsObjs] at hk
      rcases List.mem_append.1 hk with hk | hk
      · exact h o (List.mem_cons_self ..) ob ho k hk
      · exact tagsObjs_all r (fun x hx => h x (List.mem_cons_of_mem _ hx)) k hk

theorem Img.tagsAt (h : Img t H π S) {k : Nat} (hk : k < S.length) : ∀ ob, obAt H (sg π k) = some ob → ∀ x ∈ AM.tagsOb ob, x = 0 ∨ x = t := by
  intro ob hob
  obtain ⟨o, g, ob', h1, h2, h3⟩ := h.at' hk
  rw [sg_at h1] at hob
  have : ob = ob' := by simpa [obAt, h2] using hob.symm
  rw [this]
  exact h3.tagsOb

end

/-- arguments, as a callee finds them -/
def ArgI (C : Ctx) (f : Nat) (H : Heap) (π : List (Nat × Nat)) (K i : Nat) (xs ys : List AV) : Prop :=
  ∃ as lents, lendArgs C f H i xs = some (as, lents) ∧ (∀ x ∈ lents, disjoint x.objs (π.map Prod.fst) = true) ∧ renL (intoN H (π.map Prod.fst)) (fun t => t) as = ys ∧
    idsL as = (idsL ys).map (sg π) ∧ (∀ o ∈ idsL ys, o < K) ∧ as.length = xs.length ∧ lents.length = xs.length

section
variable {C : Ctx} {f : Nat} {H : Heap} {π : List (Nat × Nat)} {K i : Nat} {xs ys : List AV}

theorem ArgI.nil : ArgI C f H π K i [] [] := ⟨[], [], rfl, by simp, rfl, rfl, by simp [idsL], rfl, rfl⟩

theorem ArgI.flat {a : AV} (hrw : C.rw f i = false) (ha : flatV a = true) (h : ArgI C f H π K (i + 1) xs ys) : ArgI C f H π K i (a :: xs) (a :: ys) := by
  obtain ⟨as, lents, h1, h2, h3, h4, h5, h6, h7⟩ := h
  obtain ⟨hi, ht⟩ := flat_ids ha
  refine ⟨a :: as, ⟨[], []⟩ :: lents, args_flat hrw ha h1, ?_, ?_, by simp [idsL, hi, h4], by simpa [idsL, hi] using h5, by simp [h6], by simp [h7]⟩
  · intro x hx
    rcases List.mem_cons.1 hx with rfl | hx
    · rfl
    · exact h2 x hx
  · simp only [renL, h3]
    rw [ren_flat a hi (fun _ _ => rfl)]

/-- the objects that a lent slice leads to -/
def slO : AV → List Nat
  | .sl o _ _ _ => [o]
  | _ => []

theorem ArgI.ptr {t k o a b g : Nat} {S : List Obj} (hI : Img t H π S) (hrw : C.rw f i = false) (hk : π[k]? = some (o, g)) (hK : k < S.length) (h : ArgI C f H π S.length (i + 1) xs ys) : ArgI C f H π S.length i (.ptr o a b g :: xs) (.ptr k a b 0 :: ys) := by
  obtain ⟨as, lents, h1, h2, h3, h4, h5, h6, h7⟩ := h
  have hin : intoN H (π.map Prod.fst) o g = some (k, 0) := by
    have := hI.intoN k 0
    unfold rhoP at this
    rw [hk, pi0_at, if_pos hK] at this
    simpa using this
  refine ⟨.ptr o a b g :: as, ⟨[], []⟩ :: lents, ?_, ?_, ?_, ?_, ?_, by simp [h6], by simp [h7]⟩
  · simp only [lendArgs, hrw]
    simp [lendV, lend1, tags, h1]
  · intro x hx
    rcases List.mem_cons.1 hx with rfl | hx
    · rfl
    · exact h2 x hx
  · simp [renL, ren, hin, h3]
  · simp [idsL, ids, h4, sg_at hk]
  · intro x hx
    simp only [idsL, ids, List.mem_append, List.mem_singleton] at hx
    rcases hx with rfl | hx
    · exact hK
    · exact h5 x hx

end

/-- a body that ends -/
def EndsP (P : Frame → Heap → Prop) (o : Out) : Prop := (o.ex = .normal ∨ o.ex = .ret) ∧ P o.fr o.H

theorem EndsP.ret {P : Frame → Heap → Prop} {o : Out} (h : Rets P o) : EndsP P o := ⟨.inr h.1, h.2⟩

/-- how a call leaves its group: a description of what it tells and of what is left -/
def Leaves (C : Ctx) (rs : List ResultVar) (n : Nat) (S : List Obj) (Q : List Obj → AV → Prop) (fr : Frame) (E : Heap) : Prop :=
  ∃ π' S' v0 l, resultsV C fr E rs = some l ∧ resultV l = ren (rhoP π') (fun t => t) v0 ∧ Img n E π' S' ∧ OkS S' ∧ (∀ k ∈ tags v0, k = 0 ∨ k = n) ∧ (∀ o ∈ ids v0, o < S'.length) ∧ S.length ≤ S'.length ∧
    (∀ k : Nat, k < S.length → ∃ g, π'[k]? = some (k, g)) ∧ (∀ (k : Nat) (ob ob' : Obj), S[k]? = some ob → S'[k]? = some ob' → ob'.row = ob.row) ∧
    (∀ k, S.length ≤ k → k < S'.length → k ∈ reach (S'.map some) reachFuel (List.range S.length ++ ids v0) []) ∧ Q S' v0

section
variable {C : Ctx} {T : Cf} {f : Nat} {H : Heap}

theorem Ev1.img (hT : Below C T) {fn : Func} {c : Code} {t n : Nat} {π : List (Nat × Nat)} {S : List Obj} {xs ys : List AV} {Q : List Obj → AV → Prop}
    (hF : C.P.funcs[f]? = some fn) (hb : fn.body = some c) (hI : Img t H π S) (hok : OkS S) (hA : ArgI C f H π S.length 0 xs ys)
    (hR : reach (S.map some) reachFuel (idsL ys) [] = List.range S.length) (hn : xs.length + 1 = n) (hng : n < gtag)
    (run : ∀ E, E.length = S.length → Img n E (pi0 S.length) S → Tells (EndsP (Leaves C fn.results.toList n S Q)) C T f S.length c (numbered 0 (coerce C ys (paramsOf C f))) E) :
    ∃ π'' S' v0 H' τf, Ev1 C f xs H (ren (rhoP π'') τf v0, H') ∧ (∀ k ∈ tags v0, τf k = 0 ∨ τf k = t) ∧ Img t H' π'' S' ∧ OkS S' ∧ (∀ o ∈ ids v0, o < S'.length) ∧ Q S' v0 ∧ H.length ≤ H'.length ∧
      (∀ (k o g : Nat), π[k]? = some (o, g) → ∃ g', π''[k]? = some (o, g')) ∧ (∀ (k o g : Nat), S.length ≤ k → π''[k]? = some (o, g) → H.length ≤ o) ∧
      (∀ j, j < H.length → (∀ (k o g : Nat), π[k]? = some (o, g) → j ≠ o) → H'[j]? = H[j]?) := by
  obtain ⟨as, lents, h1, h2, h3, h4, h5, h6, h7⟩ := hA
  have hr1 : reach H reachFuel (idsL as) [] = π.map Prod.fst := by
    have := (reach_img hI hok reachFuel (idsL ys) [] h5 (by simp)).1
    rw [List.map_nil] at this
    rw [h4, this, hR, hI.fst]
  have hpl : (π.map Prod.fst).length = S.length := by rw [List.length_map, hI.len]
  have hE := hI.into n
  have hEl : ((π.map Prod.fst).map fun o => (obAt H o).map (renObj (intoN H (π.map Prod.fst)) (fun _ => n) 0)).length = S.length := by rw [List.length_map, hpl]
  obtain ⟨⟨ex, fr, E⟩, ⟨he, π', S', v0, l, r1, r2, r3, r4, r5, r6, r7, r8, r9, r10, r11⟩, hrun⟩ := run _ hEl hE
  simp only at he r1 r3
  have hlt := hI.lt
  have hnd := hI.nodup
  -- what is left behind
  have hri := reach_img r3 r4 reachFuel (List.range S.length ++ ids v0) [] (fun o ho => by
    rcases List.mem_append.1 ho with ho | ho
    · have := List.mem_range.1 ho; omega
    · exact r6 o ho) (by simp)
  have hidv : ids (resultV l) = (ids v0).map (sg π') := by rw [r2]; exact ids_rho v0 fun o ho => by rw [r3.len]; exact r6 o ho
  have hrange : (List.range S.length).map (sg π') = List.range S.length := by
    refine List.ext_getElem? fun k => ?_
    rw [List.getElem?_map]
    by_cases hk : k < S.length
    · obtain ⟨g, hg⟩ := r8 k hk
      rw [List.getElem?_range hk]
      simp [sg_at hg]
    · rw [List.getElem?_eq_none (by simpa using hk)]; rfl
  generalize hRR : reach (S'.map some) reachFuel (List.range S.length ++ ids v0) [] = R at *
  have hK : reach E reachFuel (List.range (π.map Prod.fst).length ++ ids (resultV l)) [] = R.map (sg π') := by
    rw [hpl, hidv, ← hri.1, List.map_append, hrange, List.map_nil]
  obtain ⟨t', hjt, htt⟩ := joinTags_all (t := t) (tagsObjs ((π.map Prod.fst).map (obAt H))) (tagsObjs_all _ fun o ho ob hob => by
    rw [hI.fst] at ho
    obtain ⟨k, hk, rfl⟩ := List.mem_map.1 ho
    exact hI.tagsAt (List.mem_range.1 hk) ob hob)
  have hal : as.length + 1 = n := by omega
  have hn0 : 0 < n := by omega
  -- new objects
  generalize hnew : (R.map (sg π')).filter (fun o => decide ((π.map Prod.fst).length ≤ o)) = new
  have hnewK : ∀ k, S.length ≤ k → k < S'.length → sg π' k ∈ new ∧ S.length ≤ sg π' k := by
    intro k hk hk2
    have hge : S.length ≤ sg π' k := by
      refine Classical.byContradiction fun hc => ?_
      have hc : sg π' k < S.length := by omega
      obtain ⟨g, hg⟩ := r8 _ hc
      obtain ⟨o, g2, _, h8, _⟩ := r3.at' hk2
      have e := sg_at h8
      rw [e] at hg hc
      have := r3.nd k o _ _ _ _ h8 hg rfl
      omega
    refine ⟨?_, hge⟩
    rw [← hnew, List.mem_filter]
    exact ⟨List.mem_map.2 ⟨k, r10 k hk hk2, rfl⟩, by simpa [hI.len] using hge⟩
  have hmem : ∀ k, k < S'.length → sg π' k < (π.map Prod.fst).length ∨ ((π.map Prod.fst).length ≤ sg π' k ∧ sg π' k ∈ new) := by
    intro k hk
    rw [hpl]
    by_cases hk2 : k < S.length
    · obtain ⟨g, hg⟩ := r8 k hk2
      rw [sg_at hg]; exact .inl hk2
    · obtain ⟨q1, q2⟩ := hnewK k (by omega) hk
      exact .inr ⟨q2, q1⟩
  have hbt : ∀ k, k = 0 ∨ k = n → backTag (lents ++ [⟨[], tagsObjs ((π.map Prod.fst).map (obAt H))⟩]) k = some (bk n t' k) := by
    rintro k (rfl | rfl)
    · unfold backTag bk
      rw [if_pos rfl, if_neg (by omega)]
    · unfold backTag bk
      rw [if_neg (by omega), if_pos rfl]
      rw [List.getElem?_append_right (by omega), show k - 1 - lents.length = 0 by omega]
      simp only [List.getElem?_cons_zero]
      exact hjt
  have hgo : ∀ k, k = 0 ∨ k = n → goneOf (lents ++ [⟨[], tagsObjs ((π.map Prod.fst).map (obAt H))⟩]) k = [] := by
    rintro k (rfl | rfl)
    · rfl
    · unfold goneOf
      rw [if_neg (by omega)]
      rw [List.getElem?_append_right (by omega), show k - 1 - lents.length = 0 by omega]
      rfl
  generalize hL : (lents ++ [⟨[], tagsObjs ((π.map Prod.fst).map (obAt H))⟩] : List Lent) = L at hbt hgo
  have hbT : ∀ k, k = 0 ∨ k = n → backT L k = bk n t' k := fun k hk => by unfold backT; rw [hbt k hk]; rfl
  have hb0 : backT L 0 = 0 := by rw [hbT 0 (.inl rfl)]; unfold bk; rw [if_neg (by omega)]
  have hbtt : ∀ k, k = 0 ∨ k = n → backT L k = 0 ∨ backT L k = t := by
    intro k hk
    rw [hbT k hk]
    unfold bk
    split
    · exact htt
    · exact .inl rfl
  have htv : ∀ k ∈ tags (resultV l), k = 0 ∨ k = n := by
    intro k hk
    rw [r2, tags_ren'] at hk
    simp only [List.map_id'] at hk
    exact r5 k hk
  have hus : ∀ x ∈ tags (resultV l) ++ tagsObjs ((List.range (π.map Prod.fst).length).map (obAt E)) ++ tagsObjs (new.map (obAt E)), x = 0 ∨ x = n := by
    intro x hx
    rcases List.mem_append.1 hx with hx | hx
    · rcases List.mem_append.1 hx with hx | hx
      · exact htv x hx
      · refine tagsObjs_all _ ?_ x hx
        intro o ho ob hob
        have ho := List.mem_range.1 ho
        rw [hpl] at ho
        obtain ⟨g, hg⟩ := r8 o ho
        have := r3.tagsAt (k := o) (by omega) ob
        rw [sg_at hg] at this
        exact this hob
    · refine tagsObjs_all _ ?_ x hx
      intro o ho ob hob
      rw [← hnew, List.mem_filter] at ho
      obtain ⟨k, hk, rfl⟩ := List.mem_map.1 ho.1
      exact r3.tagsAt (hri.2 k hk) ob hob
  -- back
  have hback : ∀ (k : Nat) (ob0 : Obj), S'[k]? = some ob0 → ∃ o' g' ob' o'' g'', π'[k]? = some (o', g') ∧ E[o']? = some (some ob') ∧ Like n π' g' ob0 ob' ∧ backN H (π.map Prod.fst) new E o' g' = some (o'', g'') ∧
      (putBack (backN H (π.map Prod.fst) new E) (backT L) H (π.map Prod.fst) E 0 (π.map Prod.fst) H ++ new.map fun o => (obAt E o).map (renObj (backN H (π.map Prod.fst) new E) (backT L) 0))[o'']? = some (some (renObj (backN H (π.map Prod.fst) new E) (backT L) g'' ob')) ∧
      At H (π.map Prod.fst) new o' o'' ∧ (o' < (π.map Prod.fst).length → g'' = genBack H (π.map Prod.fst) o' ob'.g) := by
    intro k ob0 hk
    obtain ⟨o', g', ob', q1, q2, q3⟩ := r3.ob k ob0 hk
    have hkl := (List.getElem?_eq_some_iff.1 hk).1
    have hm := hmem k hkl
    rw [sg_at q1] at hm
    obtain ⟨o'', g'', e1, e2, e3, e4⟩ := grp_back (τ := backT L) (new := new) hnd hlt (show obAt E o' = some ob' by simp [obAt, q2]) hm
    rw [q3.gen] at e1
    exact ⟨o', g', ob', o'', g'', q1, q2, q3, e1, e2, e3, e4⟩
  generalize hH' : putBack (backN H (π.map Prod.fst) new E) (backT L) H (π.map Prod.fst) E 0 (π.map Prod.fst) H ++ (new.map fun o => (obAt E o).map (renObj (backN H (π.map Prod.fst) new E) (backT L) 0)) = H' at hback
  have hrho : ∀ k g0, (rhoP π' k g0).bind (fun x => backN H (π.map Prod.fst) new E x.1 x.2) = rhoP (π'.map fun x => (backN H (π.map Prod.fst) new E x.1 x.2).getD (0, 0)) k g0 := by
    intro k g0
    unfold rhoP
    rw [List.getElem?_map]
    by_cases hk : k < S'.length
    · obtain ⟨o', g', ob', o'', g'', q1, _, _, q4, _⟩ := hback k _ (List.getElem?_eq_getElem hk)
      rw [q1]
      simp [q4]
    · rw [List.getElem?_eq_none (by rw [r3.len]; omega)]; rfl
  have hat : ∀ k o g, (π'.map fun x => (backN H (π.map Prod.fst) new E x.1 x.2).getD (0, 0))[k]? = some (o, g) → k < S'.length ∧ ∃ o' g', π'[k]? = some (o', g') ∧ backN H (π.map Prod.fst) new E o' g' = some (o, g) ∧ At H (π.map Prod.fst) new o' o := by
    intro k o g hk
    rw [List.getElem?_map] at hk
    have hkl : k < S'.length := by
      refine Classical.byContradiction fun hc => ?_
      rw [List.getElem?_eq_none (by rw [r3.len]; omega)] at hk
      cases hk
    obtain ⟨o', g', ob', o'', g'', q1, _, _, q4, _, q6, _⟩ := hback k _ (List.getElem?_eq_getElem hkl)
    rw [q1] at hk
    simp only [Option.map_some, q4, Option.getD_some, Option.some.injEq, Prod.mk.injEq] at hk
    obtain ⟨rfl, rfl⟩ := hk
    exact ⟨hkl, o', g', q1, q4, q6⟩
  refine ⟨π'.map fun x => (backN H (π.map Prod.fst) new E x.1 x.2).getD (0, 0), S', v0, H', backT L, ?_, fun k hk => hbtt k (r5 k hk), ?_, r4, r6, r11, ?_, ?_, ?_, ?_⟩
  · refine Ev1.of (out := ⟨ex, fr, E⟩) (l := l) hT hF hb h1 ?_ ?_ he r1 ?_
    · rw [hr1]
      simp only [Bool.and_eq_true, decide_eq_true_eq]
      exact ⟨List.all_eq_true.2 h2, by omega⟩
    · rw [hr1, h3, hal, hpl]
      exact hrun
    · rw [hr1]
      unfold wrap
      simp only [hK, hnew, hL]
      rw [if_pos (List.all_eq_true.2 fun k hk => by rw [hbt k (hus k hk)]; rfl)]
      rw [show (tags (resultV l) ++ tagsObjs ((List.range (π.map Prod.fst).length).map (obAt E)) ++ tagsObjs (new.map (obAt E))).flatMap (goneOf L) = [] from List.flatMap_eq_nil_iff.2 fun k hk => hgo k (hus k hk)]
      simp only [strike, hH', Option.some.injEq, Prod.mk.injEq, and_true]
      rw [r2, ren_ren (ρ3 := rhoP (π'.map fun x => (backN H (π.map Prod.fst) new E x.1 x.2).getD (0, 0))) (τ3 := backT L) hrho (fun _ => rfl)]
  · refine ⟨by rw [List.length_map, r3.len], ?_, ?_⟩
    · intro j k oj gj ok gk e1 e2 e
      obtain ⟨hj, o1, g1, p1, p2, p3⟩ := hat j oj gj e1
      obtain ⟨hk, o2, g2, p4, p5, p6⟩ := hat k ok gk e2
      refine Classical.byContradiction fun hne => ?_
      have ho : o1 ≠ o2 := fun e => hne (r3.nd j k _ _ _ _ p1 p4 e)
      exact At.inj hnd hlt p3 p6 ho e
    · intro k ob0 hk
      obtain ⟨o', g', ob', o'', g'', q1, q2, q3, q4, q5, q6, q7⟩ := hback k ob0 hk
      refine ⟨o'', g'', renObj (backN H (π.map Prod.fst) new E) (backT L) g'' ob', by rw [List.getElem?_map, q1]; simp [q4], q5, ⟨?_, rfl, q3.row, q3.ids, ?_, ?_, ?_⟩⟩
      · simp only [renObj]
        rw [ren_ren (ρ := backN H (π.map Prod.fst) new E) (ρ2 := idN) (τ := backT L) (τ2 := tz) (ρ3 := backN H (π.map Prod.fst) new E) (τ3 := tz) (fun o g => by cases backN H (π.map Prod.fst) new E o g <;> rfl) (fun _ => rfl)]
        rw [← ren_ren (ρ := idN) (τ := tz) (ρ2 := backN H (π.map Prod.fst) new E) (τ2 := tz) (ρ3 := backN H (π.map Prod.fst) new E) (τ3 := tz) (fun o g => rfl) (fun _ => rfl) ob'.p]
        rw [q3.p]
        exact ren_ren hrho (fun _ => rfl) ob0.p
      · intro hr
        obtain ⟨b1, b2, b3⟩ := q3.bx hr
        refine ⟨b1, b2, ?_⟩
        by_cases hkS : k < S.length
        · obtain ⟨g, hg⟩ := r8 k hkS
          rw [q1] at hg
          simp only [Option.some.injEq, Prod.mk.injEq] at hg
          obtain ⟨rfl, rfl⟩ := hg
          obtain ⟨o0, g0, ob1, s1, s2, s3⟩ := hI.at' hkS
          have hrow := r9 o' _ _ (List.getElem?_eq_getElem hkS) hk
          have hg0 := (s3.bx (by rw [← hrow]; exact hr)).2.2
          rw [q7 (by rw [hpl]; exact hkS)]
          unfold genBack
          rw [Img.fst_at s1]
          have : obAt H o0 = some ob1 := by simp [obAt, s2]
          simp only [this, s3.gen, hg0, q3.gen, b3, if_true]
        · have := (hnewK k (by omega) (List.getElem?_eq_some_iff.1 hk).1).2
          rw [sg_at q1] at this
          unfold backN at q4
          split at q4
          · rw [hpl, if_neg (by omega)] at q4
            cases hx : idxOf new o' H.length with
            | none => rw [hx] at q4; cases q4
            | some x => rw [hx] at q4; simp at q4; exact q4.2.symm
          · cases q4
      · exact hbtt _ q3.tg
      · intro x hx
        simp only [renObj] at hx
        rw [tags_ren'] at hx
        obtain ⟨y, hy, rfl⟩ := List.mem_map.1 hx
        exact hbtt y (q3.tp y hy)
  · rw [← hH', List.length_append, putBack_length]; omega
  · intro k o g hk
    have hkS : k < S.length := by
      rw [← hI.len]
      exact (List.getElem?_eq_some_iff.1 hk).1
    obtain ⟨o', g', ob', o'', g'', q1, q2, q3, q4, q5, q6, q7⟩ := hback k _ (List.getElem?_eq_getElem (show k < S'.length by omega))
    refine ⟨g'', ?_⟩
    rw [List.getElem?_map, q1]
    obtain ⟨g2, hg2⟩ := r8 k hkS
    rw [q1] at hg2
    simp only [Option.some.injEq, Prod.mk.injEq] at hg2
    obtain ⟨rfl, rfl⟩ := hg2
    simp only [Option.map_some, q4, Option.getD_some, Option.some.injEq, Prod.mk.injEq, and_true]
    rcases q6 with ⟨_, h8⟩ | ⟨h8, _⟩
    · rw [Img.fst_at hk] at h8
      exact (Option.some.inj h8).symm
    · rw [hpl] at h8; omega
  · intro k o g hk ho
    obtain ⟨hkl, o', g', p1, p2, p3⟩ := hat k o g ho
    have := (hnewK k hk hkl).2
    rw [sg_at p1] at this
    rcases p3 with ⟨h8, _⟩ | ⟨_, i, _, h8⟩
    · rw [hpl] at h8; omega
    · omega
  · intro j hj hjn
    rw [← hH']
    refine grp_rest hj ?_
    intro hm
    obtain ⟨x, hx, hx2⟩ := List.mem_map.1 hm
    obtain ⟨k, hk, hk2⟩ := List.mem_iff_getElem.1 hx
    exact hjn k x.1 x.2 (by rw [List.getElem?_eq_getElem hk, hk2]) hx2.symm

end

end Go.AM

/- Groups of objects: values read back out of their descriptions; what is lent. -/
namespace Go.AM
set_option linter.unusedSimpArgs false

theorem ltAt {α : Type} {H : List α} {j : Nat} {y : α} (h : H[j]? = some y) : j < H.length := (List.getElem?_eq_some_iff.1 h).1
theorem setAt {α : Type} {H : List α} {j : Nat} {y x : α} (h : H[j]? = some y) : (H.set j x)[j]? = some x := by
  rw [List.getElem?_set_self (ltAt h)]
theorem neAt {α : Type} {H : List α} {j k : Nat} {y x : α} (h : H[j]? = some y) (hne : k ≠ j) : (H.set k x)[j]? = some y := by
  rw [List.getElem?_set_ne hne]; exact h
theorem catAt {α : Type} {H r : List α} {j : Nat} {y : α} (h : H[j]? = some y) : (H ++ r)[j]? = some y := by
  rw [List.getElem?_append_left (ltAt h)]; exact h

section
variable {x p : AV}
theorem inv_ptr {o i f g : Nat} (h : ren idN tz x = .ptr o i f g) : x = .ptr o i f g := by
  cases x <;> simp only [ren, idN, reduceCtorEq] at h <;> exact h
theorem inv_sl {o i f g : Nat} (h : ren idN tz x = .sl o i f g) : x = .sl o i f g := by
  cases x <;> simp only [ren, idN, reduceCtorEq] at h <;> exact h
theorem inv_map {o g : Nat} (h : ren idN tz x = .map o g) : x = .map o g := by
  cases x <;> simp only [ren, idN, reduceCtorEq] at h <;> exact h
theorem inv_int {k : IntKind} {n : Int} (h : ren idN tz x = .int k n) : x = .int k n := by
  cases x <;> simp only [ren, idN, reduceCtorEq] at h <;> exact h
theorem inv_bool {d : Bool} (h : ren idN tz x = .bool d) : x = .bool d := by
  cases x <;> simp only [ren, idN, reduceCtorEq] at h <;> exact h
theorem inv_pb {l : List UInt8} (h : ren idN tz x = .pb l) : x = .pb l := by
  cases x <;> simp only [ren, idN, reduceCtorEq] at h <;> exact h
theorem inv_pi {k : IntKind} {l : List Int} (h : ren idN tz x = .pi k l) : x = .pi k l := by
  cases x <;> simp only [ren, idN, reduceCtorEq] at h <;> exact h
theorem inv_ro {c t : Nat} (h : ren idN tz x = .ro c p t) : ∃ τ, x = .ro c p τ := by
  cases x <;> simp only [ren, idN, reduceCtorEq, AV.ro.injEq] at h
  obtain ⟨rfl, rfl, _⟩ := h
  exact ⟨_, rfl⟩
theorem inv_pc {l : List AV} (h : ren idN tz x = .pc l) : ∃ l', x = .pc l' ∧ renL idN tz l' = l := by
  cases x <;> simp only [ren, idN, reduceCtorEq, AV.pc.injEq] at h
  exact ⟨_, rfl, h⟩
theorem inv_pr {e : Nat} {l : List AV} (h : ren idN tz x = .pr e l) : ∃ l', x = .pr e l' ∧ renL idN tz l' = l := by
  cases x <;> simp only [ren, idN, reduceCtorEq, AV.pr.injEq] at h
  obtain ⟨rfl, h⟩ := h
  exact ⟨_, rfl, h⟩
theorem inv_pm {l : List AV} (h : ren idN tz x = .pm l) : ∃ l', x = .pm l' ∧ renL idN tz l' = l := by
  cases x <;> simp only [ren, idN, reduceCtorEq, AV.pm.injEq] at h
  exact ⟨_, rfl, h⟩
theorem inv_cons {a : AV} {l r : List AV} (h : renL idN tz l = a :: r) : ∃ x l', l = x :: l' ∧ ren idN tz x = a ∧ renL idN tz l' = r := by
  cases l with
  | nil => simp [renL] at h
  | cons x l' =>
    simp only [renL, List.cons.injEq] at h
    exact ⟨x, l', rfl, h.1, h.2⟩
theorem inv_nil {l : List AV} (h : renL idN tz l = []) : l = [] := by
  cases l with
  | nil => rfl
  | cons x l' => simp [renL] at h
end

/-- of which kind a lent slice is -/
def payC (H : Heap) : AV → Nat
  | .ro c _ _ => c
  | .sl o _ _ g => match live H o g with
    | some ob => if ob.z = 0 ∧ plen ob.p = 0 then 0 else 2
    | none => 0
  | _ => 0

section
variable {C : Ctx} {f : Nat} {H : Heap} {π : List (Nat × Nat)} {K i : Nat} {xs ys : List AV}

end

/-- plain results -/
theorem Leaves.plain {C : Ctx} {rs : List ResultVar} {n : Nat} {S S' : List Obj} {Q : List Obj → AV → Prop} {fr : Frame} {E : Heap} {π' : List (Nat × Nat)} {l : List AV}
    (hr : resultsV C fr E rs = some l) (hi : idsL l = []) (ht : tagsL l = []) (hnt : noTups l = true) (hI : Img n E π' S') (hok : OkS S') (hl : S.length ≤ S'.length)
    (hf : ∀ k : Nat, k < S.length → ∃ g, π'[k]? = some (k, g)) (hrow : ∀ (k : Nat) (ob ob' : Obj), S[k]? = some ob → S'[k]? = some ob' → ob'.row = ob.row)
    (hR : ∀ k, S.length ≤ k → k < S'.length → k ∈ reach (S'.map some) reachFuel (List.range S.length) []) (hq : Q S' (resultV l)) : Leaves C rs n S Q fr E := by
  have h1 : ids (resultV l) = [] := by rw [ids_result hnt]; exact hi
  have h2 : tags (resultV l) = [] := by rw [tags_result hnt]; exact ht
  exact ⟨π', S', resultV l, l, hr, (ren_flat _ h1 (fun _ _ => rfl)).symm, hI, hok, (by simp [h2]), by simp [h1], hl, hf, hrow, fun k a b => by rw [h1, List.append_nil]; exact hR k a b, hq⟩

end Go.AM

/- Groups of objects, one by one. -/
namespace Go.AM
set_option linter.unusedSimpArgs false

/-- the objects of a group, one by one -/
def ImgL (t : Nat) (H : Heap) (π0 : List (Nat × Nat)) : List (Nat × Nat) → List Obj → Prop
  | [], [] => True
  | x :: r, ob0 :: S => (∃ ob, H[x.1]? = some (some ob) ∧ Like t π0 x.2 ob0 ob) ∧ ImgL t H π0 r S
  | _, _ => False

theorem ImgL.at' {t : Nat} {H : Heap} {π0 : List (Nat × Nat)} : ∀ {π : List (Nat × Nat)} {S : List Obj}, ImgL t H π0 π S → ∀ (k : Nat) (ob0 : Obj), S[k]? = some ob0 → ∃ o g ob, π[k]? = some (o, g) ∧ H[o]? = some (some ob) ∧ Like t π0 g ob0 ob
  | [], [], _, k, ob0, hk => by simp at hk
  | x :: r, ob1 :: S, h, 0, ob0, hk => by
    obtain ⟨⟨ob, h1, h2⟩, _⟩ := h
    simp at hk
    subst hk
    exact ⟨x.1, x.2, ob, rfl, h1, h2⟩
  | x :: r, ob1 :: S, h, k + 1, ob0, hk => by
    simpa using ImgL.at' h.2 k ob0 (by simpa using hk)
  | [], _ :: _, h, _, _, _ => h.elim
  | _ :: _, [], h, _, _, _ => h.elim

theorem ImgL.len {t : Nat} {H : Heap} {π0 : List (Nat × Nat)} : ∀ {π : List (Nat × Nat)} {S : List Obj}, ImgL t H π0 π S → π.length = S.length
  | [], [], _ => rfl
  | x :: r, ob1 :: S, h => by rw [List.length_cons, List.length_cons, ImgL.len h.2]
  | [], _ :: _, h => h.elim
  | _ :: _, [], h => h.elim

theorem Img.ofL {t : Nat} {H : Heap} {π : List (Nat × Nat)} {S : List Obj} (h : ImgL t H π π S) (hn : (π.map Prod.fst).Nodup) : Img t H π S where
  len := h.len
  nd := by
    intro j k oj gj ok gk h1 h2 e
    subst e
    have e1 := Img.fst_at h1
    have e2 := Img.fst_at h2
    obtain ⟨l1, e1⟩ := List.getElem?_eq_some_iff.1 e1
    obtain ⟨l2, e2⟩ := List.getElem?_eq_some_iff.1 e2
    exact (List.getElem_inj hn).1 (e1.trans e2.symm)
  ob := h.at'

/-- a box as it is described -/
theorem Like.box {t : Nat} {π : List (Nat × Nat)} {g : Nat} {p0 : AV} {cap : Option Nat} {z : Nat} {idb : Bool} {tg0 : Nat} {ob : Obj} (h : Like t π g ⟨p0, 0, cap, z, false, idb, tg0⟩ ob) : g = 0 ∧ ∃ p τ, ob = ⟨p, 0, cap, z, false, idb, τ⟩ ∧ (τ = 0 ∨ τ = t) ∧ ren idN tz p = ren (rhoP π) tz p0 ∧ ∀ k ∈ tags p, k = 0 ∨ k = t := by
  obtain ⟨h1, h2, h3, h4, h5, h6, h7⟩ := h
  obtain ⟨e1, e2, e3⟩ := h5 rfl
  subst e3
  obtain ⟨p, g, cap', z', row, idb', tg⟩ := ob
  simp only at h2 h3 h4 h6 e1 e2 h1 h7
  subst h2 h3 h4 e1 e2
  exact ⟨rfl, p, tg, rfl, h6, h1, h7⟩

theorem Like.ofBox {t : Nat} {π : List (Nat × Nat)} {p p0 : AV} {cap : Option Nat} {z : Nat} {idb : Bool} {tg0 τ : Nat} (h : ren idN tz p = ren (rhoP π) tz p0) (hτ : τ = 0 ∨ τ = t) (ht : ∀ k ∈ tags p, k = 0 ∨ k = t) : Like t π 0 ⟨p0, 0, cap, z, false, idb, tg0⟩ ⟨p, 0, cap, z, false, idb, τ⟩ :=
  ⟨h, rfl, rfl, rfl, fun _ => ⟨rfl, rfl, rfl⟩, hτ, ht⟩

end Go.AM

/- Groups of objects: what is reached. -/
namespace Go.AM
set_option linter.unusedSimpArgs false

def kids (ob : Obj) : List Nat := if ob.ids then ids ob.p else []
/-- how many names are still to be looked at, from the object i on -/
def wtF (acc : List Nat) : Nat → List Obj → Nat
  | _, [] => 0
  | i, ob :: r => (if i ∈ acc then 0 else (kids ob).length) + wtF acc (i + 1) r

theorem wtF_same {acc : List Nat} {o : Nat} : ∀ (S : List Obj) (i : Nat), o < i → wtF (acc ++ [o]) i S = wtF acc i S
  | [], _, _ => rfl
  | ob :: r, i, h => by
    unfold wtF
    rw [wtF_same r (i + 1) (by omega)]
    have : (i ∈ acc ++ [o]) ↔ i ∈ acc := by simp; omega
    simp only [this]
theorem wtF_add {acc : List Nat} {o : Nat} (ho : o ∉ acc) : ∀ (S : List Obj) (i : Nat) (ob : Obj), i ≤ o → S[o - i]? = some ob → wtF (acc ++ [o]) i S + (kids ob).length = wtF acc i S
  | [], _, _, _, h => by simp at h
  | x :: r, i, ob, hi, h => by
    by_cases he : i = o
    · subst he
      simp at h
      subst h
      unfold wtF
      rw [wtF_same r (i + 1) (by omega), if_pos (by simp), if_neg ho]
      omega
    · have h2 : r[o - (i + 1)]? = some ob := by
        rw [show o - i = (o - (i + 1)) + 1 by omega] at h
        simpa using h
      have := wtF_add ho r (i + 1) ob (by omega) h2
      unfold wtF
      have h3 : (i ∈ acc ++ [o]) ↔ i ∈ acc := by simp; omega
      simp only [h3]
      omega

theorem reach_full {S : List Obj} : ∀ (n : Nat) (l acc : List Nat), l.length + wtF acc 0 S ≤ n →
    (∀ x ∈ acc, x ∈ reach (S.map some) n l acc) ∧ (∀ x ∈ l, x < S.length → x ∈ reach (S.map some) n l acc) ∧ (∀ x ob, x ∈ reach (S.map some) n l acc → x ∉ acc → S[x]? = some ob → ∀ y ∈ kids ob, y < S.length → y ∈ reach (S.map some) n l acc)
  | 0, [], acc, _ => ⟨fun x h => h, fun x h => (by cases h), fun x ob h h2 => absurd h h2⟩
  | 0, o :: r, acc, h => by simp at h
  | n + 1, [], acc, _ => ⟨fun x h => h, fun x h => (by cases h), fun x ob h h2 => absurd h h2⟩
  | n + 1, o :: r, acc, h => by
    simp only [List.length_cons] at h
    simp only [reach]
    by_cases hm : acc.contains o = true
    · rw [if_pos hm]
      obtain ⟨h1, h2, h3⟩ := reach_full (S := S) n r acc (by omega)
      refine ⟨h1, fun x hx hl => ?_, h3⟩
      rcases List.mem_cons.1 hx with rfl | hx
      · exact h1 x (by simpa using hm)
      · exact h2 x hx hl
    · rw [if_neg hm]
      have hma : o ∉ acc := by simpa using hm
      by_cases hl : o < S.length
      · have hS : (S.map some)[o]? = some (some S[o]) := by rw [List.getElem?_map, List.getElem?_eq_getElem hl]; rfl
        rw [hS]
        simp only
        have hw := wtF_add hma S 0 S[o] (by omega) (by simp)
        obtain ⟨h1, h2, h3⟩ := reach_full (S := S) n (kids S[o] ++ r) (acc ++ [o]) (by simp only [List.length_append]; omega)
        unfold kids at h1 h2 h3
        refine ⟨fun x hx => h1 x (by simp [hx]), fun x hx hxl => ?_, fun x ob hx hxa hob y hy hyl => ?_⟩
        · rcases List.mem_cons.1 hx with rfl | hx
          · exact h1 x (by simp)
          · exact h2 x (by simp [hx]) hxl
        · by_cases hxo : x = o
          · subst hxo
            rw [List.getElem?_eq_getElem hl] at hob
            obtain rfl := Option.some.inj hob
            exact h2 y (List.mem_append_left _ hy) hyl
          · exact h3 x ob hx (by simp [hxa, hxo]) hob y hy hyl
      · have hS : (S.map some)[o]? = none := List.getElem?_eq_none (by simpa using hl)
        rw [hS]
        simp only
        obtain ⟨h1, h2, h3⟩ := reach_full (S := S) n r acc (by omega)
        refine ⟨h1, fun x hx hxl => ?_, h3⟩
        rcases List.mem_cons.1 hx with rfl | hx
        · exact absurd hxl hl
        · exact h2 x hx hxl

/-- a root is reached; what a reached object names is reached -/
theorem reach_root {S : List Obj} {l : List Nat} (h : l.length + wtF [] 0 S ≤ reachFuel) {x : Nat} (hx : x ∈ l) (hl : x < S.length) : x ∈ reach (S.map some) reachFuel l [] := (reach_full (S := S) _ _ _ h).2.1 x hx hl
theorem reach_kid {S : List Obj} {l : List Nat} (h : l.length + wtF [] 0 S ≤ reachFuel) {x y : Nat} {ob : Obj} (hx : x ∈ reach (S.map some) reachFuel l []) (hob : S[x]? = some ob) (hy : y ∈ kids ob) (hl : y < S.length) : y ∈ reach (S.map some) reachFuel l [] := (reach_full (S := S) _ _ _ h).2.2 x ob hx (by simp) hob y hy hl

end Go.AM

/- Groups of objects with rows behind them. -/
namespace Go.AM
set_option linter.unusedSimpArgs false

section
variable {ρ : Nat → Nat → Option (Nat × Nat)} {τ : Nat → Nat} {σ : Nat → Nat}
mutual
theorem ids_map (h : ∀ o g, ∃ g', ρ o g = some (σ o, g')) : (v : AV) → AM.ids (ren ρ τ v) = (AM.ids v).map σ
  | .ptr o i f g => by obtain ⟨g', e⟩ := h o g; simp [ren, e, AM.ids]
  | .sl o i f g => by obtain ⟨g', e⟩ := h o g; simp [ren, e, AM.ids]
  | .map o g => by obtain ⟨g', e⟩ := h o g; simp [ren, e, AM.ids]
  | .ro c p t => rfl
  | .rptr p i f t => rfl
  | .agg p => by simp only [ren, AM.ids, ids_map h p]
  | .tup l => by simp only [ren, AM.ids, idsL_map h l]
  | .fn f l => by simp only [ren, AM.ids, idsL_map h l]
  | .pc l => by simp only [ren, AM.ids, idsL_map h l]
  | .pr e l => by simp only [ren, AM.ids, idsL_map h l]
  | .pm l => by simp only [ren, AM.ids, idsL_map h l]
  | .top => rfl
  | .bool _ => rfl
  | .int _ _ => rfl
  | .str _ => rfl
  | .nilptr => rfl
  | .nilfn => rfl
  | .nilmap => rfl
  | .pn => rfl
  | .pb _ => rfl
  | .pi _ _ => rfl
theorem idsL_map (h : ∀ o g, ∃ g', ρ o g = some (σ o, g')) : (l : List AV) → idsL (renL ρ τ l) = (idsL l).map σ
  | [] => rfl
  | a :: r => by simp only [renL, idsL, ids_map h a, idsL_map h r, List.map_append]
end
theorem ids_shift (d : Nat) (v : AV) : AM.ids (shiftV d v) = (AM.ids v).map (· + d) := ids_map (fun o g => ⟨g, rfl⟩) v
theorem tags_shift (d : Nat) (v : AV) : tags (shiftV d v) = tags v := by unfold shiftV; rw [tags_ren']; simp
theorem shift_app {π ex : List (Nat × Nat)} {τ : Nat → Nat} {d : Nat} (hd : π.length = d) (v : AV) : ren (rhoP (π ++ ex)) τ (shiftV d v) = ren (rhoP ex) τ v := by
  refine ren_ren (fun o g => ?_) (fun _ => rfl) v
  show (π ++ ex)[o + d]? = ex[o]?
  rw [List.getElem?_append_right (by omega)]
  congr 1
  omega
theorem shift_drop {π : List (Nat × Nat)} {τ : Nat → Nat} {d : Nat} (v : AV) : ren (rhoP π) τ (shiftV d v) = ren (rhoP (π.drop d)) τ v := by
  refine ren_ren (fun o g => ?_) (fun _ => rfl) v
  show π[o + d]? = (π.drop d)[o]?
  rw [List.getElem?_drop, Nat.add_comm]
end

/-- a row as it is described: its cells name nothing, borrow nothing -/
theorem Like.rowF {t : Nat} {π : List (Nat × Nat)} {g : Nat} {p0 : AV} {cap : Option Nat} {z g0 : Nat} {tg0 : Nat} {ob : Obj} (h : Like t π g ⟨p0, g0, cap, z, true, false, tg0⟩ ob) (hi : AM.ids p0 = []) (ht : tags p0 = []) : RwT p0 g ob.tg ob ∧ (ob.tg = 0 ∨ ob.tg = t) := by
  refine ⟨⟨?_, h.gen, h.row, h.ids, rfl⟩, h.tg⟩
  have h1 : ren idN tz ob.p = p0 := by
    rw [h.p]
    show ren (rhoP π) tz p0 = p0
    exact ren_flat p0 hi (by simp [ht])
  have h2 : AM.ids ob.p = [] := by
    have := ids_ren.ids_ren_id (τ := tz) ob.p
    rw [← this]
    show AM.ids (ren idN tz ob.p) = []
    rw [h1]; exact hi
  have h3 : tags ob.p = [] := by
    have := tags_ren' (ρ := idN) (τ := tz) ob.p
    rw [h1, ht] at this
    exact List.map_eq_nil_iff.1 this.symm
  rw [ren_flat ob.p h2 (by simp [h3])] at h1
  exact h1

theorem Like.ofRowF {t : Nat} {π : List (Nat × Nat)} {g τ : Nat} {p0 : AV} {cap : Option Nat} {z g0 : Nat} {tg0 : Nat} {ob : Obj} (h : RwT p0 g τ ob) (hi : AM.ids p0 = []) (ht : tags p0 = []) (hτ : τ = 0 ∨ τ = t) : Like t π g ⟨p0, g0, cap, z, true, false, tg0⟩ ob := by
  refine ⟨?_, h.g, h.row, h.ids, (fun h => by cases h), (by rw [h.tg]; exact hτ), ?_⟩
  · rw [h.p]
    show ren idN tz p0 = ren (rhoP π) tz p0
    rw [ren_flat p0 hi (by simp [ht]), ren_flat p0 hi (by simp [ht])]
  · rw [h.p, ht]; simp

def rwF (p : AV) : Obj := ⟨p, 0, none, 0, true, false, 0⟩

/-- rows, one by one -/
def RowsAt (t : Nat) (H : Heap) : List (Nat × Nat) → List AV → Prop
  | [], [] => True
  | x :: r, p :: ps => (∃ τ ob, (τ = 0 ∨ τ = t) ∧ H[x.1]? = some (some ob) ∧ RwT p x.2 τ ob) ∧ RowsAt t H r ps
  | _, _ => False

theorem RowsAt.len {t : Nat} {H : Heap} : ∀ {ex : List (Nat × Nat)} {ps : List AV}, RowsAt t H ex ps → ex.length = ps.length
  | [], [], _ => rfl
  | x :: r, p :: ps, h => by rw [List.length_cons, List.length_cons, RowsAt.len h.2]
  | [], _ :: _, h => h.elim
  | _ :: _, [], h => h.elim

theorem RowsAt.at' {t : Nat} {H : Heap} : ∀ {ex : List (Nat × Nat)} {ps : List AV}, RowsAt t H ex ps → ∀ (k : Nat) (p : AV), ps[k]? = some p → ∃ o g τ ob, ex[k]? = some (o, g) ∧ (τ = 0 ∨ τ = t) ∧ H[o]? = some (some ob) ∧ RwT p g τ ob
  | [], [], _, k, p, hk => by simp at hk
  | x :: r, q :: ps, h, 0, p, hk => by
    obtain ⟨⟨τ, ob, h1, h2, h3⟩, _⟩ := h
    simp at hk
    subst hk
    exact ⟨x.1, x.2, τ, ob, rfl, h1, h2, h3⟩
  | x :: r, q :: ps, h, k + 1, p, hk => by simpa using RowsAt.at' h.2 k p (by simpa using hk)
  | [], _ :: _, h, _, _, _ => h.elim
  | _ :: _, [], h, _, _, _ => h.elim

theorem RowsAt.of {t : Nat} {H : Heap} : ∀ {ex : List (Nat × Nat)} {ps : List AV}, ex.length = ps.length → (∀ (k : Nat) (p : AV), ps[k]? = some p → ∃ o g τ ob, ex[k]? = some (o, g) ∧ (τ = 0 ∨ τ = t) ∧ H[o]? = some (some ob) ∧ RwT p g τ ob) → RowsAt t H ex ps
  | [], [], _, _ => trivial
  | x :: r, q :: ps, hl, h => by
    refine ⟨?_, RowsAt.of (by simpa using hl) fun k p hk => by simpa using h (k + 1) p (by simpa using hk)⟩
    obtain ⟨o, g, τ, ob, h1, h2, h3, h4⟩ := h 0 q rfl
    simp at h1
    subst h1
    exact ⟨τ, ob, h2, h3, h4⟩
  | [], _ :: _, hl, _ => by simp at hl
  | _ :: _, [], hl, _ => by simp at hl

theorem RowsAt.keep {t : Nat} {H H' : Heap} : ∀ {ex : List (Nat × Nat)} {ps : List AV}, RowsAt t H ex ps → (∀ x ∈ ex, H'[x.1]? = H[x.1]?) → RowsAt t H' ex ps
  | [], [], _, _ => trivial
  | x :: r, p :: ps, h, hk => by
    obtain ⟨⟨τ, ob, h1, h2, h3⟩, h4⟩ := h
    exact ⟨⟨τ, ob, h1, by rw [hk x (List.mem_cons_self ..)]; exact h2, h3⟩, RowsAt.keep h4 fun y hy => hk y (List.mem_cons_of_mem _ hy)⟩
  | [], _ :: _, h, _ => h.elim
  | _ :: _, [], h, _ => h.elim

theorem RowsAt.lt {t : Nat} {H : Heap} {ex : List (Nat × Nat)} {ps : List AV} (h : RowsAt t H ex ps) : ∀ x ∈ ex, x.1 < H.length := by
  intro x hx
  obtain ⟨k, hk, rfl⟩ := List.mem_iff_getElem.1 hx
  have hl := h.len
  obtain ⟨o, g, τ, ob, h1, _, h3, _⟩ := h.at' k ps[k] (List.getElem?_eq_getElem (by omega))
  rw [List.getElem?_eq_getElem hk] at h1
  rw [Option.some.inj h1]
  exact (List.getElem?_eq_some_iff.1 h3).1

section
variable {t : Nat} {H : Heap} {π ex : List (Nat × Nat)} {S : List Obj} {ps : List AV}

/-- rows put behind a group -/
theorem Img.append (h : Img t H π S) (hok : OkS S) (hr : RowsAt t H ex ps) (hf : ∀ p ∈ ps, AM.ids p = [] ∧ tags p = []) (hn : (π.map Prod.fst ++ ex.map Prod.fst).Nodup) : Img t H (π ++ ex) (S ++ ps.map rwF) where
  len := by simp [h.len, hr.len]
  nd := by
    intro j k oj gj ok gk h1 h2 e
    subst e
    have e1 := Img.fst_at h1
    have e2 := Img.fst_at h2
    rw [List.map_append] at e1 e2
    obtain ⟨l1, e1⟩ := List.getElem?_eq_some_iff.1 e1
    obtain ⟨l2, e2⟩ := List.getElem?_eq_some_iff.1 e2
    exact (List.getElem_inj hn).1 (e1.trans e2.symm)
  ob := by
    intro k ob0 hk
    by_cases hkl : k < S.length
    · rw [List.getElem?_append_left hkl] at hk
      obtain ⟨o, g, ob, h1, h2, h3⟩ := h.ob k ob0 hk
      refine ⟨o, g, ob, by rw [List.getElem?_append_left (by rw [h.len]; exact hkl)]; exact h1, h2, ⟨?_, h3.gen, h3.row, h3.ids, h3.bx, h3.tg, h3.tp⟩⟩
      rw [h3.p]
      refine ren_same _ (fun o' g' ho => ?_) fun _ _ => rfl
      have := hok k ob0 hk o' ho
      unfold rhoP
      rw [List.getElem?_append_left (by rw [h.len]; exact this)]
    · rw [List.getElem?_append_right (by omega), List.getElem?_map] at hk
      cases hp : ps[k - S.length]? with
      | none => rw [hp] at hk; cases hk
      | some p =>
        rw [hp] at hk
        obtain rfl := Option.some.inj hk
        obtain ⟨o, g, τ, ob, h1, h2, h3, h4⟩ := hr.at' _ p hp
        obtain ⟨f1, f2⟩ := hf p (List.mem_of_getElem? hp)
        exact ⟨o, g, ob, by rw [List.getElem?_append_right (by rw [h.len]; omega), h.len]; exact h1, h3, Like.ofRowF h4 f1 f2 h2⟩

theorem OkS.rows (hok : OkS S) (hf : ∀ p ∈ ps, AM.ids p = [] ∧ tags p = []) : OkS (S ++ ps.map rwF) := by
  intro k ob0 hk o ho
  by_cases hkl : k < S.length
  · rw [List.getElem?_append_left hkl] at hk
    have := hok k ob0 hk o ho
    simp; omega
  · rw [List.getElem?_append_right (by omega), List.getElem?_map] at hk
    cases hp : ps[k - S.length]? with
    | none => rw [hp] at hk; cases hk
    | some p =>
      rw [hp] at hk
      obtain rfl := Option.some.inj hk
      have := (hf p (List.mem_of_getElem? hp)).1
      simp only [rwF] at ho
      rw [this] at ho
      cases ho

/-- a group without the rows behind it -/
theorem Img.pre (h : Img t H π (S ++ ps.map rwF)) (hok : OkS S) : Img t H (π.take S.length) S where
  len := by have := h.len; simp at this ⊢; omega
  nd := by
    intro j k oj gj ok gk h1 h2 e
    rw [List.getElem?_take] at h1 h2
    split at h1
    · split at h2
      · exact h.nd j k _ _ _ _ h1 h2 e
      · cases h2
    · cases h1
  ob := by
    intro k ob0 hk
    have hkl := (List.getElem?_eq_some_iff.1 hk).1
    obtain ⟨o, g, ob, h1, h2, h3⟩ := h.ob k ob0 (by rw [List.getElem?_append_left hkl]; exact hk)
    refine ⟨o, g, ob, by rw [List.getElem?_take, if_pos hkl]; exact h1, h2, ⟨?_, h3.gen, h3.row, h3.ids, h3.bx, h3.tg, h3.tp⟩⟩
    rw [h3.p]
    refine ren_same _ (fun o' g' ho => ?_) fun _ _ => rfl
    have := hok k ob0 hk o' ho
    unfold rhoP
    rw [List.getElem?_take, if_pos this]

theorem Img.rows (h : Img t H π (S ++ ps.map rwF)) (hf : ∀ p ∈ ps, AM.ids p = [] ∧ tags p = []) : RowsAt t H (π.drop S.length) ps := by
  refine RowsAt.of ?_ ?_
  · have := h.len
    simp at this ⊢
    omega
  · intro k p hk
    have hkl := (List.getElem?_eq_some_iff.1 hk).1
    obtain ⟨o, g, ob, h1, h2, h3⟩ := h.ob (S.length + k) (rwF p) (by rw [List.getElem?_append_right (by omega), List.getElem?_map, show S.length + k - S.length = k by omega, hk]; rfl)
    obtain ⟨f1, f2⟩ := hf p (List.mem_of_getElem? hk)
    obtain ⟨q1, q2⟩ := Like.rowF h3 f1 f2
    exact ⟨o, g, ob.tg, ob, by rw [List.getElem?_drop]; exact h1, q2, h2, q1⟩

theorem wtF_rows (acc : List Nat) (ps : List AV) : ∀ i, wtF acc i (ps.map rwF) = 0 := by
  induction ps with
  | nil => intro i; rfl
  | cons p r ih =>
    intro i
    simp only [List.map_cons, wtF, ih]
    simp [kids, rwF]
theorem wtF_app (acc : List Nat) : ∀ (S R : List Obj) (i : Nat), wtF acc i (S ++ R) = wtF acc i S + wtF acc (i + S.length) R
  | [], R, i => by simp [wtF]
  | x :: S, R, i => by
    simp only [List.cons_append, wtF]
    rw [wtF_app acc S R (i + 1), List.length_cons, show i + 1 + S.length = i + (S.length + 1) by omega]
    omega

end

end Go.AM

/- Structures: a function that tells rows of its own. -/
namespace Go.AM

section
variable {C : Ctx} {T : Cf} {f : Nat} {H : Heap}

/-- what a function tells: values, and rows of its own -/
def RowsOut (C : Ctx) (rs : List ResultVar) (n : Nat) (Q : AV → List AV → Prop) (fr : Frame) (E : Heap) : Prop :=
  ∃ l ex ps w0, resultsV C fr E rs = some l ∧ RowsAt n E ex ps ∧ (∀ p ∈ ps, ids p = [] ∧ tags p = []) ∧ (ex.map Prod.fst).Nodup ∧ (ids w0).length ≤ 1000 ∧ (∀ k ∈ ids w0, k < ex.length) ∧ (∀ k, k < ex.length → k ∈ ids w0) ∧ (∀ k ∈ tags w0, k = 0 ∨ k = n) ∧ resultV l = ren (rhoP ex) (fun t => t) w0 ∧ Q w0 ps

/-- a call of a function that tells rows of its own -/
theorem Ev1.rows (hT : Below C T) {fn : Func} {c : Code} {n : Nat} {xs ys : List AV} {Q : AV → List AV → Prop}
    (hF : C.P.funcs[f]? = some fn) (hb : fn.body = some c) (hA : ArgI C f H [] 0 0 xs ys) (hi : idsL ys = []) (hn : xs.length + 1 = n) (hng : n < gtag)
    (run : Tells (EndsP (RowsOut C fn.results.toList n Q)) C T f 0 c (numbered 0 (coerce C ys (paramsOf C f))) []) :
    ∃ H' w0 ex ps τf, Ev1 C f xs H (ren (rhoP ex) τf w0, H') ∧ (∀ k ∈ tags w0, τf k = 0) ∧ RowsAt 0 H' ex ps ∧ (∀ x ∈ ex, H.length ≤ x.1) ∧ (ex.map Prod.fst).Nodup ∧ Q w0 ps ∧ H.length ≤ H'.length ∧ (∀ j, j < H.length → H'[j]? = H[j]?) := by
  have hI : ∀ t, Img t H [] [] := fun t => ⟨rfl, fun j k oj gj ok gk h1 h2 e => by simp at h1, fun k ob0 h => by simp at h⟩
  obtain ⟨π'', S', v0, H', τf, hE, hτf, hI', hok', hid, ⟨w0, ps, hS', hv0, hQ, hf⟩, hlen, hfix, hnew, hrest⟩ := Ev1.img (C := C) (T := T) (f := f) (H := H) (t := 0) (n := n) (π := []) (S := []) (xs := xs) (ys := ys)
    (Q := fun S' v0 => ∃ w0 ps, S' = ps.map rwF ∧ v0 = w0 ∧ Q w0 ps ∧ ∀ p ∈ ps, ids p = [] ∧ tags p = []) hT hF hb (hI 0) (fun k ob h => by simp at h) hA
    (by rw [hi]; rfl) hn hng (by
      intro E hEl hEI
      obtain rfl : E = [] := List.eq_nil_of_length_eq_zero hEl
      obtain ⟨out, hout, hrun⟩ := run
      refine ⟨out, ⟨hout.1, ?_⟩, hrun⟩
      obtain ⟨l, ex, ps, w0, hr, hRows, hf, hnd, hw0, hw1, hw2, hw3, hw4, hQ⟩ := hout.2
      have hexl := hRows.len
      have hI0 : Img n out.H [] [] := ⟨rfl, fun j k oj gj ok gk h1 h2 e => by simp at h1, fun k ob0 h => by simp at h⟩
      have hI2 := hI0.append (fun k ob h => by simp at h) hRows hf (by simpa using hnd)
      have hS : ([] : List Obj) ++ ps.map rwF = ps.map rwF := rfl
      rw [hS, List.nil_append] at hI2
      have hok2 : OkS (ps.map rwF) := by
        have := OkS.rows (S := []) (fun k ob h => by simp at h) hf
        exact this
      refine ⟨ex, ps.map rwF, w0, l, hr, hw4, hI2, hok2, hw3, fun k hk => by rw [List.length_map]; have := hw1 k hk; omega, Nat.zero_le _, fun k hk => by simp at hk, fun k ob ob' h => by simp at h, fun k h1 h2 => ?_, w0, ps, rfl, rfl, hQ, hf⟩
      rw [List.length_map] at h2
      refine reach_root ?_ (List.mem_append_right _ (hw2 k (by omega))) (by rw [List.length_map]; exact h2)
      rw [wtF_rows]
      simp only [List.length_nil, List.range_zero, List.nil_append]
      show _ ≤ 100000
      omega)
  subst hS' hv0
  have hR := Img.rows (S := []) (ps := ps) (by simpa using hI') hf
  rw [List.length_nil, List.drop_zero] at hR
  refine ⟨H', v0, π'', ps, τf, hE, fun k hk => (hτf k hk).elim id id, hR, fun x hx => ?_, hI'.nodup, hQ, hlen, fun j hj => hrest j hj fun k o g h => by simp at h⟩
  obtain ⟨k, hk, rfl⟩ := List.mem_iff_getElem.1 hx
  exact hnew k _ _ (Nat.zero_le _) (List.getElem?_eq_getElem hk)

end

end Go.AM

/- A call that tells a new row, which may bear the tag of what was lent first. -/
namespace Go.AM
set_option linter.unusedSimpArgs false
open Go

/-- the tag of a slice -/
def payG (H : Heap) : AV → Nat
  | .ro _ _ t => t
  | .sl o _ _ g => match live H o g with
    | some ob => ob.tg
    | none => 0
  | _ => 0

section
variable {C : Ctx} {H : Heap} {f : Nat} {T : Cf}

/-- a call that tells back a part of what was lent first, or plain values -/
theorem Ev1.backT (hT : Below C T) {args xs : List AV} {lents : List Lent} {fn : Func} {c : Code} {tg0 : Nat} {bo : List Nat} {l : List AV}
    (hF : C.P.funcs[f]? = some fn) (hb : fn.body = some c) (hl : lendArgs C f H 0 args = some (xs, lents)) (h0 : lents[0]? = some ⟨bo, [tg0]⟩) (hi : idsL xs = []) (hn : xs.length + 1 < gtag)
    (h : Tells (Rets fun fr H1 => resultsV C fr H1 fn.results.toList = some l) C T f 0 c (numbered 0 (coerce C xs (paramsOf C f))) [])
    (hv : ids (resultV l) = []) (ht : ∀ k ∈ tags (resultV l), k = 0 ∨ k = 1) : ∃ H', Ev1 C f args H (ren (fun _ _ => none) (fun k => if k = 1 then tg0 else 0) (resultV l), H') ∧ H'.length = H.length ∧ ∀ j, j ∉ bo → H'[j]? = H[j]? := by
  obtain ⟨⟨ex, fr, H1⟩, ⟨he, hr⟩, hrun⟩ := h
  simp only at he hr
  subst he
  have h0' : (lents ++ [⟨[], tagsObjs (([] : List Nat).map (obAt H))⟩])[0]? = some ⟨bo, [tg0]⟩ := by
    cases lents with
    | nil => cases h0
    | cons x r => exact h0
  have hj : joinTags [tg0] = some tg0 := by
    simp [joinTags, joinTag]
    exact fun e => e.symm
  have hbt : ∀ k ∈ tags (resultV l), backTag (lents ++ [⟨[], tagsObjs (([] : List Nat).map (obAt H))⟩]) k = some (if k = 1 then tg0 else 0) := by
    intro k hk
    rcases ht k hk with rfl | rfl
    · rfl
    · unfold backTag
      rw [if_neg (by omega), show 1 - 1 = 0 by omega, h0', if_pos rfl]
      exact hj
  have hgo : ∀ x ∈ (tags (resultV l)).flatMap (goneOf (lents ++ [⟨[], tagsObjs (([] : List Nat).map (obAt H))⟩])), x ∈ bo := by
    intro x hx
    obtain ⟨k, hk, hx⟩ := List.mem_flatMap.1 hx
    rcases ht k hk with rfl | rfl
    · simp [goneOf] at hx
    · unfold goneOf at hx
      rw [if_neg (by omega), show 1 - 1 = 0 by omega, h0'] at hx
      exact hx
  refine ⟨strike ((tags (resultV l)).flatMap (goneOf (lents ++ [⟨[], tagsObjs (([] : List Nat).map (obAt H))⟩]))) H, ?_, strike_len _ _, fun j hj => strike_other fun hx => hj (hgo j hx)⟩
  refine Ev1.of (out := ⟨.ret, fr, H1⟩) hT hF hb hl ?_ ?_ (.inr rfl) hr ?_
  · rw [hi, reach_none]
    simp only [Bool.and_eq_true, decide_eq_true_eq]
    exact ⟨List.all_eq_true.2 fun x _ => disjoint_nil x.objs, hn⟩
  · rw [hi, reach_none, renL_flat xs hi (fun _ _ => rfl)]
    exact hrun
  · rw [hi, reach_none]
    clear hgo h0'
    unfold wrap
    generalize (lents ++ [⟨[], tagsObjs (([] : List Nat).map (obAt H))⟩] : List Lent) = L at *
    simp only [List.length_nil, List.range_zero, List.nil_append, hv, reach_none, List.filter_nil, List.map_nil, tagsObjs, List.append_nil]
    rw [if_pos (List.all_eq_true.2 fun k hk => by rw [hbt k hk]; rfl)]
    simp only [putBack, Option.some.injEq, Prod.mk.injEq, and_true]
    exact ren_same _ (fun o g h => by rw [hv] at h; cases h) (fun k hk => by unfold AM.backT; rw [hbt k hk]; rfl)

end

end Go.AM
