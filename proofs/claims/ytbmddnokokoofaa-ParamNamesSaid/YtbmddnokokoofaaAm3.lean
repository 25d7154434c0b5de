/- The abstract machine, part 3: a deterministic evaluator for the program's code and the proof that what it tells is so. Conditions: none beyond the theorems' own. -/
import Derived.ChangeCalls
import Derived.LaidHandle
import Derived.LaidLaws
import Derived.MakeChecks
import Derived.ProofKit
import Derived.Stop.Joined
import Derived.Test.YtbmddnokokoofaaAm2
set_option linter.unusedSimpArgs false
set_option linter.unusedVariables false
/- Drawing regions: every order tells the same. -/
namespace Go.AM

def FEq (fr fr' : Frame) : Prop := ∀ i, getF fr i = getF fr' i

theorem FEq.put {fr fr' : Frame} (h : FEq fr fr') (d : Option Nat) (v : AV) : FEq (putF fr d v) (putF fr' d v) := by
  intro i
  cases d with
  | none => exact h i
  | some d => simp only [putF, getF, h i]

theorem putF_comm (fr : Frame) {d e : Option Nat} (v u : AV) (h : ∀ i, d = some i → e ≠ some i) : FEq (putF (putF fr d v) e u) (putF (putF fr e u) d v) := by
  intro i
  cases d with
  | none => rfl
  | some d =>
    cases e with
    | none => rfl
    | some e =>
      have hne : e ≠ d := fun x => h d rfl (by rw [x])
      simp only [putF, getF]
      by_cases h1 : e = i
      · have h2 : d ≠ i := fun x => hne (h1.trans x.symm)
        simp [h1, h2]
      · simp [h1]

theorem getF_put {fr : Frame} {d : Option Nat} {v : AV} {i : Nat} (h : d ≠ some i) : getF (putF fr d v) i = getF fr i := by
  cases d with
  | none => rfl
  | some d =>
    have : d ≠ i := fun x => h (by rw [x])
    simp [putF, getF, this]

section
variable {C : Ctx} {cf : Cf} {nt : Nat} {ops : Array Oper}

theorem evalO_congr {fr fr' : Frame} {x : Operand} (h : ∀ t, x = .tmp t → getF fr t = getF fr' t) : evalO C fr x = evalO C fr' x := by
  cases x <;> simp only [evalO]
  exact h _ rfl

theorem evalT_congr {fr fr' : Frame} {x : Operand} {t : TypeId} (h : evalO C fr x = evalO C fr' x) : evalT C fr t x = evalT C fr' t x := by
  cases x <;> simp only [evalT] <;> exact h

theorem evalArgs_congr {fr fr' : Frame} : ∀ {l : List Operand} {ts : List TypeId}, (∀ x ∈ l, evalO C fr x = evalO C fr' x) → evalArgs C fr l ts = evalArgs C fr' l ts
  | [], _, _ => rfl
  | x :: r, ts, h => by
    simp only [evalArgs]
    rw [evalArgs_congr (fun y hy => h y (by simp [hy])), h x (by simp)]
    cases ts with
    | nil => rfl
    | cons t ts => simp only [evalT_congr (h x (by simp))]

theorem evalParts_congr {fr fr' : Frame} {t : TypeId} : ∀ {l : List (Nat × Operand)}, (∀ x ∈ l, evalO C fr x.2 = evalO C fr' x.2) → evalParts C fr t l = evalParts C fr' t l
  | [], _ => rfl
  | (i, x) :: r, h => by
    simp only [evalParts]
    rw [evalParts_congr (fun y hy => h y (by simp [hy])), evalT_congr (h (i, x) (by simp))]

theorem step_congr {fr fr' : Frame} {H : Heap} {o : Oper} (h : ∀ x ∈ o.op.operands, evalO C fr x = evalO C fr' x) : step C cf fr H o = step C cf fr' H o := by
  obtain ⟨dst, op, type, pos, after, guard⟩ := o
  have hT : ∀ t x, x ∈ op.operands → evalT C fr t x = evalT C fr' t x := fun t x hx => evalT_congr (h x hx)
  have parts : ∀ (t : TypeId) (ps : Array (Nat × Operand)), (∀ x ∈ (ps.toList.map (·.2)).toArray, evalO C fr x = evalO C fr' x) → evalParts C fr t ps.toList = evalParts C fr' t ps.toList := fun t ps hp =>
    evalParts_congr fun x hx => hp x.2 (List.mem_toArray.2 (List.mem_map.2 ⟨x, hx, rfl⟩))
  have omap : ∀ (r : Option Operand), (∀ x, r = some x → evalO C fr x = evalO C fr' x) → r.map (evalO C fr) = r.map (evalO C fr') := fun r hr => by
    cases r with
    | none => rfl
    | some x => simp [hr x rfl]
  cases op <;> simp only [Op.operands] at h hT <;> simp only [step]
  case build t ps => rw [parts 0 ps h]
  case buildSlice t n ps => rw [parts _ ps h]
  case makeFunc fn first captured =>
    have : captured.toList.map (evalO C fr) = captured.toList.map (evalO C fr') := List.map_congr_left fun x hx => h x (Array.mem_append.2 (.inr (Array.mem_toList_iff.1 hx)))
    cases fn <;> simp only [this]
  case slice t x lo hi mx => rw [hT t x (by simp), omap lo fun y hy => h y (by simp [hy]), omap hi fun y hy => h y (by simp [hy])]
  case call c =>
    have hargs : ∀ ts, evalArgs C fr c.args.toList ts = evalArgs C fr' c.args.toList ts := fun ts => evalArgs_congr fun x hx => h x (Array.mem_append.2 (.inr (Array.mem_toList_iff.1 hx)))
    simp only [callV]
    cases hc : c.callee with
    | builtin b => simp only [hargs]
    | value x =>
      simp only [hargs]
      rw [h x (by simp [Call.operands, hc])]
    | invoke => rfl
  all_goals
    first
    | rfl
    | (simp only [h _ (by simp : _ ∈ _), hT _ _ (by simp : _ ∈ _)]; done)
    | (simp_all; done)

theorem runOps_cons (o : Oper) (r : List Oper) (fr : Frame) (H : Heap) :
    runOps C cf nt ops (o :: r) fr H = match out1 C cf nt ops o fr H with | some (v, H') => runOps C cf nt ops r (putF fr o.dst v) H' | none => none := by
  simp only [runOps, out1]
  split
  · rcases wantedV ops fr o with _ | _ | _ <;> rfl
  · rfl

theorem wanted_congr {fr fr' : Frame} {o : Oper} (h : ∀ t ∈ looks ops o, getF fr t = getF fr' t) : wantedV ops fr o = wantedV ops fr' o := by
  unfold wantedV
  cases hg : o.guard with
  | none => rfl
  | some x =>
    obtain ⟨j, want⟩ := x
    simp only
    cases hd : (ops[j]?).bind (·.dst) with
    | none => rfl
    | some d => simp only; rw [h d (by simp [looks, hg, hd])]

theorem out1_congr {fr fr' : Frame} {H : Heap} {o : Oper} (h : ∀ t ∈ looks ops o, getF fr t = getF fr' t) : out1 C cf nt ops o fr H = out1 C cf nt ops o fr' H := by
  unfold out1
  rw [wanted_congr h, step_congr fun x hx => evalO_congr fun t ht => h t ?_]
  subst ht
  exact List.mem_append_left _ (List.mem_filterMap.2 ⟨.tmp t, by simpa using hx, rfl⟩)

theorem free_step {fr : Frame} {H H' : Heap} {o : Oper} {v : AV} (hf : freeO C o = true) (h : step C cf fr H o = some (v, H')) : H' = H ∧ ∀ H2, step C cf fr H2 o = some (v, H2) := by
  obtain ⟨dst, op, type, pos, after, guard⟩ := o
  have keep : ∀ {m : Option AV}, (m.map fun v => (v, H)) = some (v, H') → H' = H ∧ ∀ H2 : Heap, (m.map fun v => (v, H2)) = some (v, H2) := by
    intro m hm
    cases m with
    | none => cases hm
    | some y =>
      simp only [Option.map_some, Option.some.injEq, Prod.mk.injEq] at hm
      obtain ⟨rfl, rfl⟩ := hm
      exact ⟨rfl, fun _ => rfl⟩
  cases op <;> simp only [freeO, Bool.false_eq_true] at hf <;> simp only [step] at h ⊢
  case move x =>
    simp only [Option.some.injEq, Prod.mk.injEq] at h
    obtain ⟨rfl, rfl⟩ := h
    exact ⟨rfl, fun _ => rfl⟩
  case assign x =>
    have : ∀ H, assignV C H type (evalT C fr type x) = (evalT C fr type x, H) := by
      intro H
      unfold assignV
      split
      · rename_i e he
        rw [he] at hf
        cases hf
      · rfl
    rw [this] at h
    simp only [Option.some.injEq, Prod.mk.injEq] at h
    obtain ⟨rfl, rfl⟩ := h
    exact ⟨rfl, fun H2 => by rw [this]⟩
  case pick c x y =>
    split at h
    · rename_i d hd
      simp only [Option.some.injEq, Prod.mk.injEq] at h
      obtain ⟨rfl, rfl⟩ := h
      exact ⟨rfl, fun _ => rfl⟩
    · cases h
  case build t ps => exact keep h
  case unOp op t x => exact keep h
  case field t x n => exact keep h
  case index t x ix => exact keep h
  case extract t i =>
    split at h
    · exact keep h
    · cases h
  case makeFunc fn first caps =>
    cases fn <;> simp only at h ⊢
    case func f =>
      split at h
      · rename_i hc
        simp only [Option.some.injEq, Prod.mk.injEq] at h
        obtain ⟨rfl, rfl⟩ := h
        exact ⟨rfl, fun _ => by rw [if_pos hc]⟩
      · cases h
    all_goals cases h
  case binOp op t x y ne =>
    have hb : ∀ H1 H2 a b, binV C H1 op t a b x y = binV C H2 op t a b x y := by
      intro H1 H2 a b
      have hn : ∀ z, nilFor C t z = false := by
        intro z
        unfold plainT at hf
        unfold nilFor
        split <;> simp_all
      have he : eqV C H1 t a b x y = eqV C H2 t a b x y := by
        unfold eqV
        split <;> first | rfl | simp [hn]
      unfold binV
      split
      · rfl
      · rfl
      · split
        · rw [he]
        · rw [he]
        · rfl
    obtain ⟨h1, h2⟩ := keep h
    exact ⟨h1, fun H2 => by rw [hb H2 H]; exact h2 H2⟩
  case convert s d x =>
    cases hd : und C d <;> rw [hd] at hf <;> simp only [Bool.false_eq_true] at hf
    case int k =>
      unfold convV at h ⊢
      split at h
      · cases h
      · rename_i hs
        simp only [hd, hs] at h ⊢
        split at h
        · rename_i k' k2 n e
          simp only [Option.some.injEq, Prod.mk.injEq] at h
          obtain ⟨rfl, rfl⟩ := h
          refine ⟨rfl, fun _ => ?_⟩
          simp_all
        all_goals simp_all
  case call c =>
    cases hc : c.callee with
    | builtin b =>
      rw [hc] at hf
      simp only [callV, hc] at h ⊢
      cases b <;> simp only [Bool.false_eq_true] at hf <;>
      (generalize evalArgs C fr c.args.toList c.argTypes.toList = args at h ⊢
       cases args with
       | nil => simp [builtinV] at h
       | cons y r => simp only [builtinV] at h ⊢; exact keep h)
    | value x => rw [hc] at hf; simp at hf
    | invoke r n => rw [hc] at hf; simp at hf


theorem quiet_step {fr : Frame} {H H' : Heap} {o : Oper} {v : AV} (hq : quietO C o = true) (h : step C cf fr H o = some (v, H')) : H' = H := by
  by_cases hf : freeO C o = true
  · exact (free_step hf h).1
  obtain ⟨dst, op, type, pos, after, guard⟩ := o
  have keep : ∀ {m : Option AV}, (m.map fun v => (v, H)) = some (v, H') → H' = H := by
    intro m hm
    cases m with
    | none => cases hm
    | some y =>
      simp only [Option.map_some, Option.some.injEq, Prod.mk.injEq] at hm
      exact hm.2.symm
  cases op <;> simp only [quietO] at hq <;> try exact absurd hq hf
  all_goals simp only [step] at h
  case buildSlice t n ps =>
    cases hu : und C t <;> rw [hu] at hq <;> simp only [Bool.false_eq_true] at hq
    case slice e =>
      unfold buildSliceV at h
      simp only [hu, hq, if_true] at h
      split at h
      · split at h
        · cases h
        · split at h
          · exact keep h
          · cases h
      · cases h
  case load t x => exact keep h
  case nilCheck x =>
    split at h
    · split at h
      · simp only [Option.some.injEq, Prod.mk.injEq] at h; exact h.2.symm
      · cases h
    · simp only [Option.some.injEq, Prod.mk.injEq] at h; exact h.2.symm
    · cases h
  case binOp op t x y ne => exact keep h
  case convert s d x =>
    have key : ∀ r, convV C H s d (evalT C fr s x) = r → ∀ v H', r = some (v, H') → H' = H := by
      intro r hr v H' hv
      unfold convV at hr
      repeat' (split at hr)
      all_goals (subst hr; first | (cases hv; done) | (simp only [Option.some.injEq, Prod.mk.injEq] at hv; exact hv.2.symm))
    exact key _ h _ _ rfl
  case slice t x lo hi mx =>
    split at h
    · exact keep h
    · cases h
  case fieldAddr => exact keep h
  case indexAddr => exact keep h
  case call c =>
    cases hc : c.callee with
    | builtin b =>
      rw [hc] at hq
      simp only [callV, hc] at h
      cases b <;> simp only [Bool.false_eq_true] at hq
      all_goals
        unfold builtinV at h
        split at h
        all_goals first | cases h | exact keep h | skip
        all_goals (first | (simp_all; done) | (simp_all; obtain ⟨_, _, _, rfl⟩ := h; rfl))
    | value x => rw [hc] at hq; simp at hq
    | invoke r n => rw [hc] at hq; simp at hq

theorem out1_quiet {fr : Frame} {H H' : Heap} {o : Oper} {v : AV} (hq : quietO C o = true) (h : out1 C cf nt ops o fr H = some (v, H')) : H' = H := by
  unfold out1 at h
  split at h
  · split at h
    · exact quiet_step hq h
    · simp only [Option.some.injEq, Prod.mk.injEq] at h; exact h.2.symm
    · cases h
  · cases h

theorem out1_free {fr : Frame} {H H' : Heap} {o : Oper} {v : AV} (hf : freeO C o = true) (h : out1 C cf nt ops o fr H = some (v, H')) : H' = H ∧ ∀ H2, out1 C cf nt ops o fr H2 = some (v, H2) := by
  unfold out1 at h ⊢
  split at h
  · rename_i hd
    simp only [hd, if_true]
    split at h
    · rename_i hw
      obtain ⟨h1, h2⟩ := free_step hf h
      exact ⟨h1, h2⟩
    · rename_i hw
      simp only [Option.some.injEq, Prod.mk.injEq] at h
      obtain ⟨rfl, rfl⟩ := h
      exact ⟨rfl, fun _ => rfl⟩
    · cases h
  · cases h

theorem apartOf_spec {x y : Oper} (h : apartOf ops x y = true) : (∀ d, x.dst = some d → d ∉ looks ops y ∧ y.dst ≠ some d) ∧ (∀ d, y.dst = some d → d ∉ looks ops x) := by
  unfold apartOf at h
  simp only [Bool.and_eq_true] at h
  obtain ⟨h1, h2⟩ := h
  refine ⟨fun d hd => ?_, fun d hd => ?_⟩
  · rw [hd] at h1
    simp at h1
    exact h1
  · rw [hd] at h2
    simp at h2
    exact h2

theorem look_op {fr fr' : Frame} {o : Oper} (h : ∀ t ∈ looks ops o, getF fr t = getF fr' t) : ∀ x ∈ o.op.operands, evalO C fr x = evalO C fr' x := by
  intro x hx
  refine evalO_congr fun t ht => h t ?_
  subst ht
  exact List.mem_append_left _ (List.mem_filterMap.2 ⟨.tmp t, by simpa using hx, rfl⟩)

theorem called_congr {fr fr' : Frame} {o : Oper} (h : ∀ x ∈ o.op.operands, evalO C fr x = evalO C fr' x) : calledV C fr o = calledV C fr' o := by
  obtain ⟨dst, op, type, pos, after, guard⟩ := o
  cases op <;> try rfl
  case call c =>
    simp only [calledV]
    cases hc : c.callee with
    | builtin b => rfl
    | value x =>
      simp only
      have hx : x ∈ (Call.operands c) := by simp [Call.operands, hc]
      have hargs : ∀ ts, evalArgs C fr c.args.toList ts = evalArgs C fr' c.args.toList ts := fun ts => evalArgs_congr fun y hy => h y (by
        simp only [Op.operands, Call.operands, hc]
        exact Array.mem_append.2 (.inr (Array.mem_toList_iff.1 hy)))
      simp only [hargs]
      rw [h x hx]
    | invoke r n => rfl

theorem pushes_congr {fr fr' : Frame} {o : Oper} (h : ∀ x ∈ o.op.operands, evalO C fr x = evalO C fr' x) : pushes C fr o = pushes C fr' o := by
  obtain ⟨dst, op, type, pos, after, guard⟩ := o
  cases op <;> try rfl
  case assign x =>
    simp only [pushes]
    rw [evalT_congr (h x (by simp [Op.operands]))]

theorem mark_congr {fr fr' : Frame} {H H' : Heap} {o : Oper} (h : ∀ t ∈ looks ops o, getF fr t = getF fr' t) : markOf C ops fr H H' o = markOf C ops fr' H H' o := by
  have hx := look_op (C := C) h
  have hv : opVals C fr o = opVals C fr' o := List.map_congr_left fun x hx' => hx x (by simpa using hx')
  unfold markOf touched mentioned
  rw [wanted_congr h, hv, called_congr hx, pushes_congr hx]

/-- what there is of operations -/
inductive Sort1 (C : Ctx) (cf : Cf) (nt : Nat) (ops : Array Oper) (o : Oper) (fr : Frame) (H : Heap) (v : AV) (H' : Heap) : Prop
  | free (hm : ∀ H2, markOf C ops fr H2 H2 o = .none) (he : H' = H) (ha : ∀ H2, out1 C cf nt ops o fr H2 = some (v, H2))
  | quiet (l : List Nat) (hm : ∀ H2, markOf C ops fr H2 H2 o = .look l) (he : H' = H) (ha : ∀ H2 : Heap, (∀ x ∈ l, H2[x]? = H[x]?) → out1 C cf nt ops o fr H2 = some (v, H2))
  | loud (t : List Nat) (hm : markOf C ops fr H H' o = .touch t H.length) (ho : Only t H H')
  | stay (t c : List Nat) (hm : markOf C ops fr H H' o = .stay t c) (ho : Only t H H') (hl : H'.length = H.length)
    (up : ∀ ob, H.length ∉ c → out1 C cf nt ops o fr (H ++ [ob]) = some (v, H' ++ [ob]) ∧ markOf C ops fr (H ++ [ob]) (H' ++ [ob]) o = .stay t c)
    (down : ∀ H0 ob, H = H0 ++ [ob] → H0.length ∉ c → ∃ H0', H' = H0' ++ [ob] ∧ H0'.length = H0.length ∧ out1 C cf nt ops o fr H0 = some (v, H0') ∧ markOf C ops fr H0 H0' o = .stay t c)
  | push (ob : Option Obj) (hm : ∀ H2 : Heap, H2.length = H.length → markOf C ops fr H2 (H2 ++ [ob]) o = .push H.length) (he : H' = H ++ [ob]) (ha : ∀ H2 : Heap, H2.length = H.length → out1 C cf nt ops o fr H2 = some (v, H2 ++ [ob]))

/-- an operation that makes an object -/
theorem push_step {fr : Frame} {H H' : Heap} {o : Oper} {v : AV} (hp : pushes C fr o = true) (h : step C cf fr H o = some (v, H')) :
    ∃ ob, H' = H ++ [ob] ∧ ∀ H2 : Heap, H2.length = H.length → step C cf fr H2 o = some (v, H2 ++ [ob]) := by
  obtain ⟨dst, op, type, pos, after, guard⟩ := o
  cases op <;> simp only [pushes, Bool.false_eq_true] at hp <;> simp only [step] at h ⊢
  case assign x =>
    split at hp
    · rename_i hv hu
      simp only [hv, assignV, hu, Option.some.injEq, Prod.mk.injEq] at h ⊢
      obtain ⟨rfl, rfl⟩ := h
      exact ⟨_, rfl, fun H2 h2 => ⟨by rw [h2], rfl⟩⟩
    · cases hp
  case alloc t =>
    cases hb : boxOf (zeroAV C t) with
    | none => rw [hb] at h; cases h
    | some p =>
      rw [hb] at h
      simp only [newBox, Option.map_some, Option.some.injEq, Prod.mk.injEq] at h ⊢
      obtain ⟨rfl, rfl⟩ := h
      exact ⟨_, rfl, fun H2 h2 => ⟨by rw [h2], rfl⟩⟩
  case box t x =>
    cases hb : boxOf (evalT C fr t x) with
    | none => rw [hb] at h; cases h
    | some p =>
      rw [hb] at h
      simp only [Option.bind_some] at h ⊢
      split at h
      · rename_i hc
        simp only [newBox, Option.some.injEq, Prod.mk.injEq] at h
        obtain ⟨rfl, rfl⟩ := h
        exact ⟨_, rfl, fun H2 h2 => by rw [if_pos hc]; simp [newBox, h2]⟩
      · cases h
  case makeSlice t l c =>
    unfold makeSliceV at h ⊢
    split at h
    · rename_i e l' c' hu hl hc
      split at h
      · rename_i hk
        cases hz : zeroRow C e l'.toNat with
        | none => rw [hz] at h; cases h
        | some p =>
          rw [hz] at h
          simp only [Option.map_some, Option.some.injEq, Prod.mk.injEq] at h
          obtain ⟨rfl, rfl⟩ := h
          refine ⟨_, rfl, fun H2 h2 => ?_⟩
          simp only [if_pos hk, Option.map_some, h2]
      · cases h
    · cases h

theorem sort1 (hcf : CfTouch C cf) {o : Oper} {fr : Frame} {H H' : Heap} {v : AV} (h : out1 C cf nt ops o fr H = some (v, H')) : Sort1 C cf nt ops o fr H v H' := by
  by_cases hw : wantedV ops fr o = some true
  · have hstep : ∀ {H2 : Heap} {v2 : AV} {H3 : Heap}, step C cf fr H2 o = some (v2, H3) → out1 C cf nt ops o fr H2 = some (v2, H3) := by
      intro H2 v2 H3 hs
      unfold out1 at h ⊢
      split at h
      · rename_i hd
        rw [if_pos hd, hw]
        exact hs
      · cases h
    have h0 : step C cf fr H o = some (v, H') := by
      unfold out1 at h
      split at h
      · rw [hw] at h
        exact h
      · cases h
    by_cases hf : freeO C o = true
    · obtain ⟨h1, h2⟩ := out1_free hf h
      exact .free (fun H2 => by simp [markOf, hw, hf]) h1 h2
    · by_cases hq : quietO C o = true
      · have e := out1_quiet hq h
        exact .quiet (idsL (opVals C fr o)) (fun H2 => by simp [markOf, hw, hf, hq]) e fun H2 hx => hstep (quiet_at hq (by simpa using hf) h0 hx)
      · by_cases hp : pushes C fr o = true
        · obtain ⟨ob, h1, h2⟩ := push_step hp h0
          exact .push ob (fun H2 h3 => by simp [markOf, hw, hf, hq, hp, h3]) h1 fun H2 h3 => hstep (h2 H2 h3)
        · by_cases ha : isAssign o = true
          · have hA : ∃ x, o.op = .assign x := by
              unfold isAssign at ha
              split at ha
              · rename_i x hx; exact ⟨x, hx⟩
              · cases ha
            obtain ⟨x, hx⟩ := hA
            have key : ∀ H2 : Heap, step C cf fr H2 o = some (evalT C fr o.type x, H2) := by
              intro H2
              simp only [step, hx]
              unfold assignV
              split
              · rename_i h1 h2
                simp [pushes, hx, h1, h2] at hp
              · rfl
            rw [key H] at h0
            simp only [Option.some.injEq, Prod.mk.injEq] at h0
            obtain ⟨rfl, rfl⟩ := h0
            exact .free (fun H2 => by simp [markOf, hw, hf, hq, hp, ha]) rfl fun H2 => hstep (key H2)
          · by_cases hs : ((calledV C fr o).isSome && H'.length == H.length) = true
            · simp only [Bool.and_eq_true, beq_iff_eq] at hs
              obtain ⟨hs, hlen⟩ := hs
              obtain ⟨⟨f, args⟩, hcv⟩ := Option.isSome_iff_exists.1 hs
              -- a call
              have hcall : ∀ H2 : Heap, step C cf fr H2 o = if bodied C f then cf f args H2 else none := by
                intro H2
                unfold calledV at hcv
                split at hcv
                · rename_i c hop
                  split at hcv
                  · rename_i x hcal
                    split at hcv
                    · rename_i f' caps he
                      simp only [Option.some.injEq, Prod.mk.injEq] at hcv
                      obtain ⟨rfl, rfl⟩ := hcv
                      simp only [step, hop, callV, hcal, he]
                    · cases hcv
                  · cases hcv
                · cases hcv
              have hbd : bodied C f = true := by
                rw [hcall H] at h0
                split at h0
                · assumption
                · cases h0
              have hcall' : ∀ H2 : Heap, step C cf fr H2 o = cf f args H2 := fun H2 => by rw [hcall H2, if_pos hbd]
              have h1 : cf f args H = some (v, H') := by rw [← hcall' H]; exact h0
              obtain ⟨hup, hdown⟩ := hcf.2 f args H v H' h1 hlen
              have ht : ∀ H2 : Heap, touched C fr H2 o = touchCall C f args H2 := fun H2 => by simp only [touched, hcv]
              have hme : ∀ H2 : Heap, mentioned C fr H2 o = mentionCall C f args H2 := fun H2 => by simp only [mentioned, hcv]
              have hmk : ∀ H2 H3 : Heap, H3.length = H2.length → markOf C ops fr H2 H3 o = .stay (touchCall C f args H2) (mentionCall C f args H2) := fun H2 H3 h3 => by
                simp [markOf, hw, hf, hq, hp, ha, hcv, h3, ht, hme]
              refine .stay _ _ (hmk H H' hlen) ?_ hlen ?_ ?_
              · rw [← ht]; exact step_only hcf.1 h0
              · intro ob hn
                obtain ⟨_, e1, e2, _⟩ := mention_but (C := C) (But.push H ob) hn
                refine ⟨hstep (by rw [hcall']; exact hup ob hn), ?_⟩
                rw [hmk _ _ (by simp [hlen]), e1, e2]
              · intro H0 ob he hn
                subst he
                obtain ⟨H0', h2, h3, h4⟩ := hdown H0 ob rfl hn
                obtain ⟨_, e1, e2, _⟩ := mention_but (C := C) (But.pop H0 ob) hn
                refine ⟨H0', h2, h3, hstep (by rw [hcall']; exact h4), ?_⟩
                rw [hmk _ _ h3, e1, e2]
            · exact .loud (touched C fr H o) (by simp [markOf, hw, hf, hq, hp, ha]; simpa using hs) (step_only hcf.1 h0)
  · have hm : ∀ H2, markOf C ops fr H2 H2 o = .none := fun H2 => by
      unfold markOf
      split
      · rename_i hw'; exact absurd hw' hw
      · rfl
    unfold out1 at h
    split at h
    · rename_i hd
      split at h
      · rename_i hw'; exact absurd hw' hw
      · rename_i hw'
        simp only [Option.some.injEq, Prod.mk.injEq] at h
        obtain ⟨rfl, rfl⟩ := h
        exact .free hm rfl fun H2 => by simp [out1, hd, hw']
      · cases h
    · cases h

theorem disjoint_iff' {l t : List Nat} {n : Nat} (h : lookOk l t n = true) : ∀ x ∈ l, x ∉ t ∧ x < n := by
  unfold lookOk at h
  simp only [Bool.and_eq_true, List.all_eq_true, decide_eq_true_eq] at h
  exact fun x hx => ⟨disjoint_iff.1 h.1 x hx, h.2 x hx⟩

/-- objects beyond what is turned are the same -/
theorem Only.stay {l t : List Nat} {H H' : Heap} (ho : Only t H H') (hl : H'.length = H.length) (hd : disjoint l t = true) : ∀ z ∈ l, H'[z]? = H[z]? := by
  intro z hz
  by_cases h : z < H.length
  · exact ho.2 z h (disjoint_iff.1 hd z hz)
  · rw [List.getElem?_eq_none (by omega), List.getElem?_eq_none (by omega)]

theorem push_at {l : List Nat} {H : Heap} {ob : Option Obj} (hd : (!l.contains H.length) = true) : ∀ z ∈ l, (H ++ [ob])[z]? = H[z]? := by
  intro z hz
  refine But.push H ob z fun e => ?_
  subst e
  simp [hz] at hd

theorem swapD (hcf : CfTouch C cf) {x y : Oper} {fr : Frame} {H H1 H2 : Heap} {v u : AV} (hxy : apartOf ops x y = true) (hb : bear (markOf C ops fr H H1 x) (markOf C ops (putF fr x.dst v) H1 H2 y) = true)
    (hx : out1 C cf nt ops x fr H = some (v, H1)) (hy : out1 C cf nt ops y (putF fr x.dst v) H1 = some (u, H2)) :
    ∃ H1', out1 C cf nt ops y fr H = some (u, H1') ∧ out1 C cf nt ops x (putF fr y.dst u) H1' = some (v, H2) ∧
      markOf C ops fr H H1' y = markOf C ops (putF fr x.dst v) H1 H2 y ∧ markOf C ops (putF fr y.dst u) H1' H2 x = markOf C ops fr H H1 x := by
  obtain ⟨h1, h2⟩ := apartOf_spec hxy
  have hyl : ∀ t ∈ looks ops y, getF (putF fr x.dst v) t = getF fr t := fun t ht => getF_put fun e => (h1 t e).1 ht
  have hxl : ∀ t ∈ looks ops x, getF (putF fr y.dst u) t = getF fr t := fun t ht => getF_put fun e => h2 t e ht
  rw [out1_congr hyl] at hy
  have hy' : ∀ H H', markOf C ops (putF fr x.dst v) H H' y = markOf C ops fr H H' y := fun H H' => mark_congr hyl
  have hx' : ∀ H, out1 C cf nt ops x (putF fr y.dst u) H = out1 C cf nt ops x fr H := fun H => out1_congr hxl
  have hx'' : ∀ H H', markOf C ops (putF fr y.dst u) H H' x = markOf C ops fr H H' x := fun H H' => mark_congr hxl
  simp only [hy'] at hb
  simp only [hx', hx'', hy']
  rcases sort1 hcf hx with ⟨hm, rfl, ha⟩ | ⟨l, hm, rfl, ha⟩ | ⟨t, hm, ho⟩ | ⟨t, c, hm, ho, hl, up, down⟩ | ⟨ob, hm, rfl, ha⟩
  · exact ⟨H2, hy, ha H2, rfl, by rw [hm, hm]⟩
  · rcases sort1 hcf hy with ⟨hm2, rfl, ha2⟩ | ⟨l2, hm2, rfl, ha2⟩ | ⟨t2, hm2, ho2⟩ | ⟨t2, c2, hm2, ho2, hl2, up2, down2⟩ | ⟨ob2, hm2, rfl, ha2⟩
    · exact ⟨_, ha2 _, hx, rfl, rfl⟩
    · exact ⟨_, hy, hx, rfl, rfl⟩
    · rw [hm, hm2] at hb
      have hl := disjoint_iff' (by simpa [bear] using hb)
      exact ⟨H2, hy, ha H2 fun z hz => ho2.2 z (hl z hz).2 (hl z hz).1, rfl, by rw [hm, hm]⟩
    · rw [hm, hm2] at hb
      exact ⟨H2, hy, ha H2 (ho2.stay hl2 hb), rfl, by rw [hm, hm]⟩
    · rw [hm, hm2 _ rfl] at hb
      exact ⟨_, hy, ha _ (push_at hb), rfl, by rw [hm, hm]⟩
  · rcases sort1 hcf hy with ⟨hm2, rfl, ha2⟩ | ⟨l2, hm2, rfl, ha2⟩ | ⟨t2, hm2, ho2⟩ | ⟨t2, c2, hm2, ho2, hl2, up2, down2⟩ | ⟨ob2, hm2, rfl, ha2⟩
    · exact ⟨H, ha2 H, hx, by rw [hm2, hm2], rfl⟩
    · rw [hm, hm2] at hb
      have hl := disjoint_iff' (by simpa [bear] using hb)
      exact ⟨H, ha2 H fun z hz => (ho.2 z (hl z hz).2 (hl z hz).1).symm, hx, by rw [hm2, hm2], rfl⟩
    · rw [hm, hm2] at hb
      simp [bear] at hb
    · rw [hm, hm2] at hb
      simp [bear] at hb
    · rw [hm, hm2 _ rfl] at hb
      simp [bear] at hb
  · rcases sort1 hcf hy with ⟨hm2, rfl, ha2⟩ | ⟨l2, hm2, rfl, ha2⟩ | ⟨t2, hm2, ho2⟩ | ⟨t2, c2, hm2, ho2, hl2, up2, down2⟩ | ⟨ob2, hm2, rfl, ha2⟩
    · exact ⟨H, ha2 H, hx, by rw [hm2, hm2], rfl⟩
    · rw [hm, hm2] at hb
      exact ⟨H, ha2 H fun z hz => (ho.stay hl hb z hz).symm, hx, by rw [hm2, hm2], rfl⟩
    · rw [hm, hm2] at hb
      simp [bear] at hb
    · rw [hm, hm2] at hb
      simp [bear] at hb
    · rw [hm, hm2 _ rfl] at hb
      have hn : H.length ∉ c := by
        rw [← hl]
        simpa [bear] using hb
      obtain ⟨h3, h4⟩ := up ob2 hn
      exact ⟨H ++ [ob2], ha2 H hl.symm, h3, by rw [hm2 H hl.symm, hm2 _ rfl], by rw [h4, hm]⟩
  · rcases sort1 hcf hy with ⟨hm2, rfl, ha2⟩ | ⟨l2, hm2, rfl, ha2⟩ | ⟨t2, hm2, ho2⟩ | ⟨t2, c2, hm2, ho2, hl2, up2, down2⟩ | ⟨ob2, hm2, rfl, ha2⟩
    · exact ⟨H, ha2 H, hx, by rw [hm2, hm2], rfl⟩
    · rw [hm _ rfl, hm2] at hb
      exact ⟨H, ha2 H fun z hz => (push_at hb z hz).symm, hx, by rw [hm2, hm2], rfl⟩
    · rw [hm _ rfl, hm2] at hb
      simp [bear] at hb
    · rw [hm _ rfl, hm2] at hb
      have hn : H.length ∉ c2 := by simpa [bear] using hb
      obtain ⟨H0', h3, h4, h5, h6⟩ := down2 H ob rfl hn
      subst h3
      exact ⟨H0', h5, ha H0' h4, by rw [h6, hm2], by rw [hm _ h4, hm _ rfl]⟩
    · rw [hm _ rfl, hm2 _ rfl] at hb
      simp [bear] at hb

theorem runD_feq : ∀ {l : List Oper} {fr fr2 : Frame} {H : Heap} {fr' : Frame} {H' : Heap} {ms : List Mark}, FEq fr fr2 → runD C cf nt ops l fr H = some (fr', H', ms) → ∃ fr2', runD C cf nt ops l fr2 H = some (fr2', H', ms) ∧ FEq fr2' fr'
  | [], fr, fr2, H, fr', H', ms, he, h => by
    simp only [runD, Option.some.injEq, Prod.mk.injEq] at h
    obtain ⟨rfl, rfl, rfl⟩ := h
    exact ⟨fr2, rfl, fun i => (he i).symm⟩
  | o :: r, fr, fr2, H, fr', H', ms, he, h => by
    simp only [runD] at h ⊢
    have hmk : ∀ H H', markOf C ops fr2 H H' o = markOf C ops fr H H' o := fun H H' => (mark_congr (fr := fr) fun t _ => he t).symm
    rw [← out1_congr (fr := fr) fun t _ => he t]
    simp only [hmk]
    split at h
    · rename_i v H1 hv
      split at h
      · rename_i fr1 H2 ms' hr
        simp only [Option.some.injEq, Prod.mk.injEq] at h
        obtain ⟨rfl, rfl, rfl⟩ := h
        obtain ⟨fr2', h1, h2⟩ := runD_feq (he.put o.dst v) hr
        exact ⟨fr2', by simp only [h1], h2⟩
      · cases h
    · cases h

def opAt (ops : Array Oper) (i : Nat) : Oper := ops.getD i default

theorem front (hcf : CfTouch C cf) {mk : Nat → Mark} {i : Nat} {B : List Nat} : ∀ {A : List Nat} {fr : Frame} {H : Heap} {fr' : Frame} {H' : Heap},
    runD C cf nt ops ((A ++ i :: B).map (opAt ops)) fr H = some (fr', H', (A ++ i :: B).map mk) → (∀ j ∈ A, apartOf ops (opAt ops j) (opAt ops i) = true ∧ bear (mk j) (mk i) = true) →
    ∃ v H1, out1 C cf nt ops (opAt ops i) fr H = some (v, H1) ∧ markOf C ops fr H H1 (opAt ops i) = mk i ∧
      ∃ fr'', runD C cf nt ops ((A ++ B).map (opAt ops)) (putF fr (opAt ops i).dst v) H1 = some (fr'', H', (A ++ B).map mk) ∧ FEq fr'' fr'
  | [], fr, H, fr', H', h, _ => by
    simp only [List.nil_append, List.map_cons, runD] at h
    split at h
    · rename_i v H1 hv
      split at h
      · rename_i fr1 H2 ms hr
        simp only [Option.some.injEq, Prod.mk.injEq, List.cons.injEq] at h
        obtain ⟨rfl, rfl, h1, rfl⟩ := h
        exact ⟨v, H1, hv, h1, fr1, hr, fun _ => rfl⟩
      · cases h
    · cases h
  | a :: A, fr, H, fr', H', h, hA => by
    simp only [List.cons_append, List.map_cons, runD] at h
    split at h
    · rename_i u Ha hu
      split at h
      · rename_i fr1 H2 ms hr
        simp only [Option.some.injEq, Prod.mk.injEq, List.cons.injEq] at h
        obtain ⟨rfl, rfl, hma, rfl⟩ := h
        obtain ⟨v, H1, h1, hmi, fr'', h2, h3⟩ := front hcf hr fun j hj => hA j (by simp [hj])
        obtain ⟨hap, hbr⟩ := hA a (by simp)
        obtain ⟨H1', h4, h5, h6, h7⟩ := swapD hcf hap (by rw [hma, hmi]; exact hbr) hu h1
        have hne : ∀ k, (opAt ops a).dst = some k → (opAt ops i).dst ≠ some k := fun k hk => ((apartOf_spec hap).1 k hk).2
        obtain ⟨fr3, h8, h9⟩ := runD_feq (putF_comm fr u v hne) h2
        refine ⟨v, H1', h4, h6.trans hmi, fr3, ?_, fun k => (h9 k).trans (h3 k)⟩
        simp only [List.cons_append, List.map_cons, runD]
        rw [h5]
        simp only [h8, h7, hma]
      · cases h
    · cases h

/-- the run in the text's order, with its marks -/
theorem runD_of : ∀ {l : List Oper} {fr : Frame} {H : Heap} {fr' : Frame} {H' : Heap}, runOps C cf nt ops l fr H = some (fr', H') → ∃ ms, runD C cf nt ops l fr H = some (fr', H', ms)
  | [], fr, H, fr', H', h => by
    simp only [runOps, Option.some.injEq, Prod.mk.injEq] at h
    obtain ⟨rfl, rfl⟩ := h
    exact ⟨[], rfl⟩
  | o :: r, fr, H, fr', H', h => by
    rw [runOps_cons] at h
    simp only [runD]
    split at h
    · rename_i v H1 hv
      obtain ⟨ms, hm⟩ := runD_of h
      refine ⟨markOf C ops fr H H1 o :: ms, ?_⟩
      rw [hv]
      simp only [hm]
    · cases h

theorem runD_marks : ∀ {l : List Oper} {fr : Frame} {H : Heap} {fr' : Frame} {H' : Heap} {ms : List Mark}, runD C cf nt ops l fr H = some (fr', H', ms) →
    ms.length = l.length ∧ ∀ (i : Nat) (o : Oper) (m : Mark), l[i]? = some o → ms[i]? = some m → ∃ fr H H', m = markOf C ops fr H H' o
  | [], fr, H, fr', H', ms, h => by
    simp only [runD, Option.some.injEq, Prod.mk.injEq] at h
    obtain ⟨_, _, rfl⟩ := h
    simp
  | o :: r, fr, H, fr', H', ms, h => by
    simp only [runD] at h
    split at h
    · split at h
      · rename_i hr
        simp only [Option.some.injEq, Prod.mk.injEq] at h
        obtain ⟨_, _, rfl⟩ := h
        obtain ⟨h1, h2⟩ := runD_marks hr
        refine ⟨by simp [h1], fun i p m hp hm => ?_⟩
        cases i with
        | zero =>
          simp only [List.getElem?_cons_zero, Option.some.injEq] at hp hm
          subst hp; subst hm
          exact ⟨fr, H, _, rfl⟩
        | succ i => exact h2 i p m (by simpa using hp) (by simpa using hm)
      · cases h
    · cases h

theorem mark_free {fr : Frame} {H H' : Heap} {o : Oper} (h : freeO C o = true) : markOf C ops fr H H' o = .none := by
  unfold markOf; split <;> simp [h]

theorem mark_quiet {fr : Frame} {H H' : Heap} {o : Oper} (h : quietO C o = true) : markOf C ops fr H H' o = .none ∨ ∃ l, markOf C ops fr H H' o = .look l := by
  unfold markOf
  split
  · split
    · exact .inl rfl
    · exact .inr ⟨idsL (opVals C fr o), rfl⟩
  · exact .inl rfl

theorem freeOf_bear {x y : Oper} (h : freeOf C ops x y = true) (fr fr' : Frame) (H H2 H' H3 : Heap) : apartOf ops x y = true ∧ bear (markOf C ops fr H H2 x) (markOf C ops fr' H' H3 y) = true := by
  unfold freeOf at h
  simp only [Bool.and_eq_true, Bool.or_eq_true] at h
  refine ⟨h.1, ?_⟩
  rcases h.2 with (h | h) | ⟨h1, h2⟩
  · rw [mark_free h]; cases markOf C ops fr' H' H3 y <;> rfl
  · rw [mark_free h]; cases markOf C ops fr H H2 x <;> rfl
  · rcases mark_quiet (ops := ops) (fr := fr) (H := H) (H' := H2) h1 with e | ⟨l, e⟩ <;> rcases mark_quiet (ops := ops) (fr := fr') (H := H') (H' := H3) h2 with e2 | ⟨l2, e2⟩ <;> rw [e, e2] <;> rfl

end

end Go.AM

/- Drawing regions: whatever is drawn. -/
namespace Go.AM

section before

theorem foldl_pushes {α β : Type} (m : Array β → α → β) : ∀ (l : List α) (acc : Array β),
    (l.foldl (fun acc o => acc.push (m acc o)) acc).size = acc.size + l.length ∧
    (∀ k, k < acc.size → (l.foldl (fun acc o => acc.push (m acc o)) acc)[k]? = acc[k]?) ∧
    ∀ k o, l[k]? = some o → ∃ acc' : Array β, acc'.size = acc.size + k ∧ (∀ j, j < acc'.size → (l.foldl (fun acc o => acc.push (m acc o)) acc)[j]? = acc'[j]?) ∧
      (l.foldl (fun acc o => acc.push (m acc o)) acc)[acc.size + k]? = some (m acc' o)
  | [], acc => ⟨by simp, fun _ _ => rfl, fun k o h => by simp at h⟩
  | a :: r, acc => by
    obtain ⟨h1, h2, h3⟩ := foldl_pushes m r (acc.push (m acc a))
    simp only [List.foldl_cons]
    refine ⟨by rw [h1]; simp; omega, fun k hk => ?_, fun k o h => ?_⟩
    · rw [h2 k (by simp; omega), Array.getElem?_push_lt hk, Array.getElem?_eq_getElem hk]
    · cases k with
      | zero =>
        simp only [List.getElem?_cons_zero, Option.some.injEq] at h
        subst h
        refine ⟨acc, rfl, fun j hj => ?_, ?_⟩
        · rw [h2 j (by simp; omega), Array.getElem?_push_lt hj, Array.getElem?_eq_getElem hj]
        · rw [h2 _ (by simp)]
          simp
      | succ k =>
        simp only [List.getElem?_cons_succ] at h
        obtain ⟨acc', h4, h5, h6⟩ := h3 k o h
        simp only [Array.size_push] at h4 h6
        exact ⟨acc', by omega, h5, by rw [show acc.size + (k + 1) = acc.size + 1 + k by omega]; exact h6⟩

theorem mask_bit {acc : Array Nat} {j : Nat} : ∀ (l : List Edge) (s0 : Nat), ((l.foldl (fun s e => if Region.binds .any e then s ||| 2 ^ e.on ||| acc.getD e.on 0 else s) s0).testBit j) = true →
    s0.testBit j = true ∨ ∃ e ∈ l, Region.binds .any e = true ∧ (j = e.on ∨ (acc.getD e.on 0).testBit j = true)
  | [], s0, h => .inl h
  | e :: r, s0, h => by
    simp only [List.foldl_cons] at h
    rcases mask_bit r _ h with h | ⟨e', h1, h2⟩
    · split at h
      · rename_i hb
        rw [Nat.testBit_or, Nat.testBit_or, Nat.testBit_two_pow] at h
        simp only [Bool.or_eq_true, decide_eq_true_eq] at h
        rcases h with (h | h) | h
        · exact .inl h
        · exact .inr ⟨e, by simp, hb, .inl h.symm⟩
        · exact .inr ⟨e, by simp, hb, .inr h⟩
      · exact .inl h
    · exact .inr ⟨e', by simp [h1], h2⟩

theorem before_bit {ops : Array Oper} {i j : Nat} {o : Oper} (hi : ops[i]? = some o) (he : edgesOk i o = true) (h : ((Region.before ops).getD i 0).testBit j = true) :
    ∃ e ∈ o.after.toList, Region.binds .any e = true ∧ (j = e.on ∨ ((Region.before ops).getD e.on 0).testBit j = true) := by
  have hfold := foldl_pushes (fun (acc : Array Nat) (o : Oper) => o.after.foldl (fun s e => if Region.binds .any e then s ||| 2 ^ e.on ||| acc.getD e.on 0 else s) 0) ops.toList #[]
  have hb : Region.before ops = ops.toList.foldl (fun acc o => acc.push (o.after.foldl (fun s e => if Region.binds .any e then s ||| 2 ^ e.on ||| acc.getD e.on 0 else s) 0)) #[] := by
    unfold Region.before
    rw [Array.foldl_toList]
  rw [← hb] at hfold
  obtain ⟨_, _, h3⟩ := hfold
  obtain ⟨acc', h4, h5, h6⟩ := h3 i o (by rw [Array.getElem?_toList]; exact hi)
  simp only [List.size_toArray, List.length_nil, Nat.zero_add] at h4 h6
  rw [Array.getD_eq_getD_getElem?, h6, Option.getD_some, ← Array.foldl_toList] at h
  rcases mask_bit _ _ h with h | ⟨e, h7, h8, h9⟩
  · simp at h
  · refine ⟨e, h7, h8, ?_⟩
    rcases h9 with h9 | h9
    · exact .inl h9
    · right
      have hlt : e.on < i := by
        unfold edgesOk at he
        have := List.all_eq_true.1 he e h7
        simpa [h8] using this
      rw [Array.getD_eq_getD_getElem?, h5 e.on (by omega), ← Array.getD_eq_getD_getElem?]
      exact h9

theorem edgesAll_spec : ∀ {l : List Oper} {k : Nat}, edgesAll k l = true → ∀ (i : Nat) (o : Oper), l[i]? = some o → edgesOk (k + i) o = true
  | [], k, _, i, o, h => by simp at h
  | a :: r, k, he, i, o, h => by
    simp only [edgesAll, Bool.and_eq_true] at he
    cases i with
    | zero =>
      simp only [List.getElem?_cons_zero, Option.some.injEq] at h
      subst h
      exact he.1
    | succ i =>
      have := edgesAll_spec he.2 i o (by simpa using h)
      rwa [show k + (i + 1) = k + 1 + i by omega]

end before

section
variable {C : Ctx} {cf : Cf} {T : Nat → Nat → Prop} {m nt : Nat} {K0 : Kx} {ops : Array Oper}

theorem Now.feq {fr fr' : Frame} {H : Heap} {a : Act} {w : World} (h : Now C T m K0 nt fr H a w) (he : FEq fr fr') : Now C T m K0 nt fr' H a w := by
  obtain ⟨μ, hI, hE, hf, hn, hd⟩ := h
  exact ⟨μ, hI, hE, fun i => by rw [← he i]; exact hf i, hn, hd⟩

def rest (ops : Array Oper) (listed : Array Bool) : List Nat := (List.range ops.size).filter fun i => !listed.getD i true

theorem at_some {i : Nat} (h : i < ops.size) : ops[i]? = some (opAt ops i) := by
  simp [opAt, Array.getD_eq_getD_getElem?, h]

theorem mem_rest {listed : Array Bool} {i : Nat} : i ∈ rest ops listed ↔ i < ops.size ∧ listed.getD i true = false := by
  simp [rest]

theorem rest_sorted (listed : Array Bool) : (rest ops listed).Pairwise (· < ·) := List.Pairwise.filter _ List.pairwise_lt_range

theorem mem_ready {listed : Array Bool} {i : Nat} : i ∈ Region.ready .any ops listed ↔ i ∈ rest ops listed ∧ ((ops[i]?).map (·.after.all fun e => !Region.binds .any e || listed.getD e.on false)).getD false = true := by
  unfold Region.ready
  rw [List.mem_filter, mem_rest]
  simp only [List.mem_range, Bool.and_eq_true, Bool.not_eq_true']
  exact and_assoc.symm

theorem getD_other {listed : Array Bool} {i : Nat} (h : i < listed.size) : listed.getD i true = listed.getD i false := by
  simp [Array.getD_eq_getD_getElem?, h]

/-- what waits for nothing listed yet is ready -/
theorem ready_least {listed : Array Bool} (hs : listed.size = ops.size) (hed : edgesAll 0 ops.toList = true) {i : Nat} {r : List Nat} (h : rest ops listed = i :: r) : i ∈ Region.ready .any ops listed := by
  have hi : i ∈ rest ops listed := by rw [h]; simp
  obtain ⟨h1, h2⟩ := mem_rest.1 hi
  refine mem_ready.2 ⟨hi, ?_⟩
  rw [at_some h1]
  simp only [Option.map_some, Option.getD_some, Array.all_eq_true_iff_forall_mem, Bool.or_eq_true, Bool.not_eq_true']
  intro e he
  by_cases hb : Region.binds .any e = true
  · right
    have hok := edgesAll_spec hed i (opAt ops i) (by rw [Array.getElem?_toList]; exact at_some h1)
    rw [Nat.zero_add] at hok
    have hlt : e.on < i := by
      have := List.all_eq_true.1 hok e (Array.mem_toList_iff.2 he)
      simpa [hb] using this
    rw [← getD_other (by omega)]
    by_cases hl : listed.getD e.on true = true
    · exact hl
    · exfalso
      have hm : e.on ∈ rest ops listed := mem_rest.2 ⟨by omega, by simpa using hl⟩
      have hso := rest_sorted (ops := ops) listed
      rw [h] at hm hso
      rcases List.mem_cons.1 hm with h4 | h4
      · omega
      · have := (List.pairwise_cons.1 hso).1 _ h4
        omega
  · left
    simpa using hb

def Closed (ops : Array Oper) (listed : Array Bool) : Prop := ∀ i, i < ops.size → listed.getD i false = true → ∀ j, ((Region.before ops).getD i 0).testBit j = true → listed.getD j false = true

theorem set_getD {listed : Array Bool} {i j : Nat} {d : Bool} (hi : i < listed.size) : (listed.setIfInBounds i true).getD j d = if j = i then true else listed.getD j d := by
  simp only [Array.getD_eq_getD_getElem?]
  split
  · rename_i h
    subst h
    simp [hi]
  · rename_i h
    rw [Array.getElem?_setIfInBounds_ne (Ne.symm h)]

theorem any_ok (hcf : CfOk C cf) (hct : CfTouch C cf) (hed : edgesAll 0 ops.toList = true) {mk : Nat → Mark}
    (hpair : ∀ i j, i < j → j < ops.size → ((Region.before ops).getD j 0).testBit i = true ∨ (apartOf ops (opAt ops i) (opAt ops j) = true ∧ bear (mk i) (mk j) = true)) {Q : Exit → Act → World → Prop} {fr' : Frame} {H' : Heap} (hQ : ∀ a' w', Now C T m K0 nt fr' H' a' w' → Q .normal a' w') :
    ∀ (fuel : Nat) (listed : Array Bool) (fr fr1 : Frame) (H : Heap) (a : Act) (w : World), listed.size = ops.size → Closed ops listed → (rest ops listed).length ≤ fuel →
      runD C cf nt ops ((rest ops listed).map (opAt ops)) fr H = some (fr1, H', (rest ops listed).map mk) → FEq fr1 fr' → Now C T m K0 nt fr H a w → wpAny C.P .any ops Q fuel listed a w := by
  -- all listed
  have done : ∀ (listed : Array Bool) (fr fr1 : Frame) (H : Heap) (a : Act) (w : World), rest ops listed = [] → runD C cf nt ops ((rest ops listed).map (opAt ops)) fr H = some (fr1, H', (rest ops listed).map mk) → FEq fr1 fr' →
      Now C T m K0 nt fr H a w → Q .normal a w := by
    intro listed fr fr1 H a w hr h he hN
    rw [hr] at h
    simp only [List.map_nil, runD, Option.some.injEq, Prod.mk.injEq] at h
    obtain ⟨rfl, rfl, _⟩ := h
    exact hQ a w (hN.feq he)
  intro fuel
  induction fuel with
  | zero =>
    intro listed fr fr1 H a w hs hcl hlen h he hN
    have hr : rest ops listed = [] := List.eq_nil_of_length_eq_zero (Nat.le_zero.1 hlen)
    refine ⟨?_, done listed fr fr1 H a w hr h he hN⟩
    cases hrd : Region.ready .any ops listed with
    | nil => rfl
    | cons i r =>
      have : i ∈ Region.ready .any ops listed := by rw [hrd]; simp
      have := (mem_ready.1 this).1
      rw [hr] at this
      simp at this
  | succ fuel ih =>
    intro listed fr fr1 H a w hs hcl hlen h he hN
    refine ⟨fun hrd => ?_, fun i hi => ?_⟩
    · have hr : rest ops listed = [] := by
        cases hr : rest ops listed with
        | nil => rfl
        | cons i r =>
          have := ready_least hs hed hr
          rw [hrd] at this
          simp at this
      exact done listed fr fr1 H a w hr h he hN
    · obtain ⟨hir, hedge⟩ := mem_ready.1 hi
      obtain ⟨hlt, hnl⟩ := mem_rest.1 hir
      obtain ⟨A, B, hAB⟩ := List.append_of_mem hir
      have hso := rest_sorted (ops := ops) listed
      rw [hAB] at hso
      have hA : ∀ j ∈ A, j < i := fun j hj => (List.pairwise_append.1 hso).2.2 j hj i (by simp)
      have hB : ∀ j ∈ B, i < j := fun j hj => (List.pairwise_cons.1 (List.pairwise_append.1 hso).2.1).1 j hj
      rw [at_some hlt] at hedge
      simp only [Option.map_some, Option.getD_some, Array.all_eq_true_iff_forall_mem, Bool.or_eq_true, Bool.not_eq_true'] at hedge
      have hok := edgesAll_spec hed i (opAt ops i) (by rw [Array.getElem?_toList]; exact at_some hlt)
      rw [Nat.zero_add] at hok
      -- what lies before i is listed
      have hbef : ∀ j, ((Region.before ops).getD i 0).testBit j = true → listed.getD j false = true := by
        intro j hj
        obtain ⟨e, h1, h2, h3⟩ := before_bit (at_some hlt) hok hj
        have he1 : listed.getD e.on false = true := by
          rcases hedge e (Array.mem_toList_iff.1 h1) with h4 | h4
          · rw [h2] at h4; cases h4
          · exact h4
        rcases h3 with rfl | h3
        · exact he1
        · have hlt2 : e.on < i := by
            have := List.all_eq_true.1 hok e h1
            simpa [h2] using this
          exact hcl e.on (by omega) he1 j h3
      have hfree : ∀ j ∈ A, apartOf ops (opAt ops j) (opAt ops i) = true ∧ bear (mk j) (mk i) = true := by
        intro j hj
        rcases hpair j i (hA j hj) hlt with h1 | h1
        · have h2 := hbef j h1
          have hjr : j ∈ rest ops listed := by rw [hAB]; simp [hj]
          have h3 := (mem_rest.1 hjr).2
          rw [getD_other (by have := (mem_rest.1 hjr).1; omega)] at h3
          rw [h3] at h2
          cases h2
        · exact h1
      rw [hAB] at h
      obtain ⟨v, H1, h1, _, fr2, h2, h3⟩ := front hct h hfree
      have hrest : rest ops (listed.setIfInBounds i true) = A ++ B := by
        have e1 : rest ops (listed.setIfInBounds i true) = (rest ops listed).filter (fun j => decide (j ≠ i)) := by
          unfold rest
          rw [List.filter_filter]
          refine List.filter_congr fun j hj => ?_
          rw [set_getD (by omega)]
          by_cases hji : j = i
          · simp [hji]
          · simp [hji]
        rw [e1, hAB, List.filter_append, List.filter_cons]
        simp only [ne_eq, not_true_eq_false, decide_false, Bool.false_eq_true, if_false]
        congr 1
        · exact List.filter_eq_self.2 fun j hj => by have := hA j hj; simp; omega
        · exact List.filter_eq_self.2 fun j hj => by have := hB j hj; simp; omega
      have next : ∀ a' w', Now C T m K0 nt (putF fr (opAt ops i).dst v) H1 a' w' → wpAny C.P .any ops Q fuel (listed.setIfInBounds i true) a' w' := by
        intro a' w' hN'
        refine ih _ _ fr2 H1 a' w' (by simp [hs]) ?_ ?_ ?_ (fun k => (h3 k).trans (he k)) hN'
        · intro k hk hkl j hj
          rw [set_getD (by omega)] at hkl ⊢
          split
          · rfl
          · split at hkl
            · rename_i hki
              subst hki
              exact hbef j hj
            · exact hcl k hk hkl j hj
        · rw [hrest]
          have : (rest ops listed).length = A.length + B.length + 1 := by rw [hAB]; simp; omega
          simp
          omega
        · rw [hrest]
          exact h2
      unfold wpOp
      rw [at_some hlt]
      simp only
      obtain ⟨μ, hI, hE0, hf, hn, hdf⟩ := id hN
      unfold out1 at h1
      split at h1
      · rename_i hdst
        split at h1
        · rename_i hw
          rw [wanted_ok hf hw]
          simp only [if_true]
          left
          exact step_upon hcf rfl h1 hN hdst fun u w' hN' => next _ _ hN'
        · rename_i hw
          rw [wanted_ok hf hw]
          simp only [Bool.false_eq_true, if_false]
          simp only [Option.some.injEq, Prod.mk.injEq] at h1
          obtain ⟨rfl, rfl⟩ := h1
          exact next _ _ (skip_now hN hdst)
        · cases h1
      · cases h1

theorem map_range {ops : Array Oper} : (List.range ops.size).map (opAt ops) = ops.toList := by
  apply List.ext_getElem?
  intro i
  rw [List.getElem?_map]
  by_cases h : i < ops.size
  · rw [List.getElem?_range h, Array.getElem?_toList, at_some h]
    rfl
  · simp [h]

theorem draw_okD (hcf : CfOk C cf) (hct : CfTouch C cf) (hmix : C.P.follows .mixedOrders = true) (hed : edgesAll 0 ops.toList = true) {fr fr' : Frame} {H H' : Heap} {ms : List Mark} {a : Act} {w : World} {id : Nat} {Q : Exit → Act → World → Prop}
    (hpair : ∀ i j, i < j → j < ops.size → ((Region.before ops).getD j 0).testBit i = true ∨ (apartOf ops (opAt ops i) (opAt ops j) = true ∧ bear (ms.getD i .none) (ms.getD j .none) = true))
    (h : runD C cf nt ops ops.toList fr H = some (fr', H', ms)) (hN : Now C T m K0 nt fr H a w) (hQ : ∀ a' w', Now C T m K0 nt fr' H' a' w' → Q .normal a' w') : (Code.region id ops true).wp C.P Q a w := by
  refine wp_region_any hmix ?_
  have hall : rest ops (Array.replicate ops.size false) = List.range ops.size := by
    unfold rest
    exact List.filter_eq_self.2 fun i hi => by simp [Array.getD_eq_getD_getElem?, List.mem_range.1 hi]
  have hms : (List.range ops.size).map (fun i => ms.getD i .none) = ms := by
    have hlen := (runD_marks h).1
    apply List.ext_getElem?
    intro i
    rw [List.getElem?_map]
    by_cases hi : i < ops.size
    · rw [List.getElem?_range hi]
      have : i < ms.length := by rw [hlen]; simpa using hi
      simp [List.getD_eq_getElem?_getD, this]
    · have : ms.length ≤ i := by rw [hlen]; simpa using hi
      simp [hi, List.getElem?_eq_none this]
  refine any_ok hcf hct hed (mk := fun i => ms.getD i .none) hpair hQ ops.size _ fr fr' H a _ (by simp) ?_ (by rw [hall]; simp) (by rw [hall, map_range, hms]; exact h) (fun _ => rfl) ?_
  · intro i hi hl
    simp [Array.getD_eq_getD_getElem?, hi] at hl
  · obtain ⟨μ, hI, hE0, hf, hn, hdf⟩ := hN
    obtain ⟨h1, h2⟩ := Inv.world (w' := { w with drawn := w.drawn + 1 }) hI (Nat.le_refl _) rfl rfl rfl (fun b _ => .inl rfl)
    exact ⟨μ, h1, hE0.trans h2 hE0.len, FRel.evo h2 (Nat.le_refl _) hf, hn, hdf⟩

theorem draw_dyn (hcf : CfOk C cf) (hct : CfTouch C cf) (hmix : C.P.follows .mixedOrders = true) (hd : drawOkD ops = true) {fr fr' : Frame} {H H' : Heap} {ms : List Mark} {a : Act} {w : World} {id : Nat} {Q : Exit → Act → World → Prop}
    (h : runD C cf nt ops ops.toList fr H = some (fr', H', ms)) (hok : marksOk (Region.before ops) ms = true) (hN : Now C T m K0 nt fr H a w) (hQ : ∀ a' w', Now C T m K0 nt fr' H' a' w' → Q .normal a' w') : (Code.region id ops true).wp C.P Q a w := by
  unfold drawOkD at hd
  simp only [Bool.and_eq_true, List.all_eq_true, List.mem_range, Bool.or_eq_true] at hd
  refine draw_okD hcf hct hmix hd.1 (fun i j hij hj => ?_) h hN hQ
  have hlen := (runD_marks h).1
  have hjm : j < ms.length := by rw [hlen]; simpa using hj
  have him : i < ms.length := by omega
  have h1 := hd.2 j hj i hij
  rw [at_some hj, at_some (show i < ops.size by omega)] at h1
  unfold marksOk at hok
  simp only [List.all_eq_true, List.mem_range, Bool.or_eq_true] at hok
  have h2 := hok j hjm i hij
  rw [List.getElem?_eq_getElem hjm, List.getElem?_eq_getElem him] at h2
  rcases h1 with h1 | h1
  · exact .inl h1
  · rcases h2 with h2 | h2
    · exact .inl h2
    · exact .inr ⟨h1, by simpa [List.getD_eq_getElem?_getD, hjm, him] using h2⟩

theorem draw_ok (hcf : CfOk C cf) (hct : CfTouch C cf) (hmix : C.P.follows .mixedOrders = true) (hd : drawOk C ops = true) {fr fr' : Frame} {H H' : Heap} {a : Act} {w : World} {id : Nat} {Q : Exit → Act → World → Prop}
    (h : runOps C cf nt ops ops.toList fr H = some (fr', H')) (hN : Now C T m K0 nt fr H a w) (hQ : ∀ a' w', Now C T m K0 nt fr' H' a' w' → Q .normal a' w') : (Code.region id ops true).wp C.P Q a w := by
  obtain ⟨ms, hms⟩ := runD_of h
  unfold drawOk at hd
  simp only [Bool.and_eq_true, List.all_eq_true, List.mem_range, Bool.or_eq_true] at hd
  refine draw_okD hcf hct hmix hd.1 (fun i j hij hj => ?_) hms hN hQ
  obtain ⟨hlen, hmk⟩ := runD_marks hms
  have hjm : j < ms.length := by rw [hlen]; simpa using hj
  have him : i < ms.length := by omega
  have h1 := hd.2 j hj i hij
  have ei := at_some (show i < ops.size by omega)
  have ej := at_some hj
  rw [ei, ej] at h1
  rcases h1 with h1 | h1
  · exact .inl h1
  · obtain ⟨fi, Hi, Hi', e1⟩ := hmk i _ _ (by rw [Array.getElem?_toList]; exact ei) (List.getElem?_eq_getElem him)
    obtain ⟨fj, Hj, Hj', e2⟩ := hmk j _ _ (by rw [Array.getElem?_toList]; exact ej) (List.getElem?_eq_getElem hjm)
    have := freeOf_bear h1 fi fj Hi Hi' Hj Hj'
    rw [← e1, ← e2] at this
    exact .inr ⟨this.1, by simpa [List.getD_eq_getElem?_getD, hjm, him] using this.2⟩

end

end Go.AM

/- Running code: what exec tells is so. -/
namespace Go.AM

def exOf : Ex → Exit
  | .normal => .normal
  | .exit id => .exit id
  | .ret => .ret

/-- what is left when out is told -/
def Left (C : Ctx) (T : Nat → Nat → Prop) (m : Nat) (K0 : Kx) (nt : Nat) (out : Out) (e : Exit) (a : Act) (w : World) : Prop :=
  e = exOf out.ex ∧ Now C T m K0 nt out.fr out.H a w

theorem least {J : Nat → Prop} (h : ∃ k, J k) : ∃ k, J k ∧ ∀ j, J j → k ≤ j := by
  obtain ⟨k, hk⟩ := h
  induction k using Nat.strongRecOn with
  | _ k ih =>
    by_cases hx : ∃ j, j < k ∧ J j
    · obtain ⟨j, h1, h2⟩ := hx
      exact ih j h1 h2
    · exact ⟨k, hk, fun j hj => Nat.le_of_not_lt fun h => hx ⟨j, h, hj⟩⟩

open Classical in
/-- a measure out of a stock of fuels -/
noncomputable def fuelOf (J : Act → World → Nat → Prop) (a : Act) (w : World) : Nat :=
  if h : ∃ k, J a w k then Classical.choose (least h) else 0

theorem fuelOf_spec {J : Act → World → Nat → Prop} {a : Act} {w : World} (h : ∃ k, J a w k) : J a w (fuelOf J a w) ∧ ∀ j, J a w j → fuelOf J a w ≤ j := by
  unfold fuelOf
  rw [dif_pos h]
  exact Classical.choose_spec (least h)

theorem wp_loop_fuel {P : Program} {Q : Exit → Act → World → Prop} {c : Code} {a : Act} {w : World} (J : Act → World → Nat → Prop) (n : Nat) (h0 : J a w n)
    (round : ∀ a w n, J a w n → c.wp P (Exit.then (fun a' w' => ∃ k, k < n ∧ J a' w' k) Q) a w) : (Code.loop c).wp P Q a w := by
  refine wp_loop (fun a w => ∃ k, J a w k) (fuelOf J) ⟨n, h0⟩ fun a w h => ?_
  obtain ⟨h1, h2⟩ := fuelOf_spec h
  refine wp_mono (round a w _ h1) fun e a' w' hq => ?_
  cases e <;> simp only [Exit.then] at hq ⊢ <;> try exact hq
  obtain ⟨k, h3, h4⟩ := hq
  exact ⟨⟨k, h4⟩, Nat.lt_of_le_of_lt ((fuelOf_spec ⟨k, h4⟩).2 k h4) h3⟩

section
variable {C : Ctx} {T : Nat → Nat → Prop} {m nt : Nat} {K0 : Kx}

theorem exec_ok {cf : Cf} (hcf : CfOk C cf) (hct : CfTouch C cf) {f n : Nat} (hmix : C.P.follows .mixedOrders = true) : (c : Code) → drawsOk C f c = true → ∀ {fr : Frame} {H : Heap} {a : Act} {w : World} {out : Out},
    exec C cf f m n c fr H = some out → Now C T m K0 (ntOf C f) fr H a w → c.wp C.P (Left C T m K0 (ntOf C f) out) a w
  | .skip, _, fr, H, a, w, out, h, hN => by
    simp only [exec, Option.some.injEq] at h
    subst h
    exact wp_skip ⟨rfl, hN⟩
  | .region id ops draw, hdr, fr, H, a, w, out, h, hN => by
    simp only [exec] at h
    have hQ : ∀ fr' H', out = afterRegion C f m id fr' H' → ∀ a' w', Now C T m K0 (ntOf C f) fr' H' a' w' → Left C T m K0 (ntOf C f) out .normal a' w' := fun fr' H' e a' w' hN' => by
      subst e
      obtain ⟨h1, h2⟩ := hN'.after f id
      exact ⟨by rw [h1]; rfl, h2⟩
    split at h
    · rename_i hdy
      simp only [Bool.and_eq_true] at hdy
      obtain ⟨rfl, hdy⟩ := hdy
      simp only [drawsOk, Bool.not_true, hdy, if_true, Bool.false_or] at hdr
      split at h
      · rename_i fr' H' ms hr
        split at h
        · rename_i hok
          simp only [Option.some.injEq] at h
          exact draw_dyn hcf hct hmix hdr hr hok hN (hQ fr' H' h.symm)
        · cases h
      · cases h
    · rename_i hndy
      split at h
      · cases h
      · rename_i hd
        split at h
        · rename_i fr' H' hr
          simp only [Option.some.injEq] at h
          cases draw with
          | true =>
            have hid : C.dr f id = true := by simpa using hd
            have hdy : C.dy f id = false := by simpa using hndy
            simp only [drawsOk, hid, hdy, Bool.not_true, Bool.false_or, Bool.false_eq_true, if_false] at hdr
            exact draw_ok hcf hct hmix hdr hr hN (hQ fr' H' h.symm)
          | false =>
            refine wp_region ?_
            have := runOps_ok hcf (Q := Left C T m K0 (ntOf C f) out) ops.toList 0 rfl hr hN (hQ fr' H' h.symm)
            rwa [Array.length_toList, ← List.range_eq_range'] at this
        · cases h
  | .seq x y, hdr, fr, H, a, w, out, h, hN => by
    simp only [drawsOk, Bool.and_eq_true] at hdr
    obtain ⟨hd1, hd2⟩ := hdr
    simp only [exec] at h
    split at h
    · rename_i fr' H' hx
      refine wp_seq (wp_mono (exec_ok hcf hct hmix x hd1 hx hN) fun e a' w' hl => ?_)
      obtain ⟨rfl, hN'⟩ := hl
      exact exec_ok hcf hct hmix y hd2 h hN'
    · rename_i hne
      refine wp_seq (wp_mono (exec_ok hcf hct hmix x hd1 h hN) fun e a' w' hl => ?_)
      obtain ⟨rfl, hN'⟩ := hl
      cases hx : out.ex with
      | normal =>
        obtain ⟨ex, fr', H'⟩ := out
        simp only at hx
        subst hx
        exact absurd h (hne _ _)
      | exit id => simp only [exOf, Exit.then]; exact ⟨by rw [hx]; rfl, hN'⟩
      | ret => simp only [exOf, Exit.then]; exact ⟨by rw [hx]; rfl, hN'⟩
  | .cond c x y, hdr, fr, H, a, w, out, h, hN => by
    simp only [drawsOk, Bool.and_eq_true] at hdr
    obtain ⟨hd1, hd2⟩ := hdr
    simp only [exec] at h
    split at h
    · rename_i d hd
      have hc : a.eval c = .bool d := by
        obtain ⟨μ, hI, _, hf, _⟩ := hN
        have := evalO_v hI hf c
        rw [hd] at this
        simpa [VRel, V1Rel, SRel, RV] using this
      refine wp_cond hc ?_
      cases d with
      | true => exact exec_ok hcf hct hmix x hd1 h hN
      | false => exact exec_ok hcf hct hmix y hd2 h hN
    · cases h
  | .block id c, hdr, fr, H, a, w, out, h, hN => by
    simp only [drawsOk] at hdr
    simp only [exec] at h
    split at h
    · rename_i id' fr' H' hx
      refine wp_block (wp_mono (exec_ok hcf hct hmix c hdr hx hN) fun e a' w' hl => ?_)
      obtain ⟨rfl, hN'⟩ := hl
      simp only [exOf, Exit.inBlock]
      split at h
      · rename_i he
        simp only [Option.some.injEq] at h
        subst h
        rw [if_pos he]
        exact ⟨rfl, hN'⟩
      · rename_i he
        simp only [Option.some.injEq] at h
        subst h
        rw [if_neg he]
        exact ⟨rfl, hN'⟩
    · rename_i hne
      refine wp_block (wp_mono (exec_ok hcf hct hmix c hdr h hN) fun e a' w' hl => ?_)
      obtain ⟨rfl, hN'⟩ := hl
      cases hx : out.ex with
      | normal => simp only [exOf, Exit.inBlock]; exact ⟨by rw [hx]; rfl, hN'⟩
      | exit id =>
        obtain ⟨ex, fr', H'⟩ := out
        simp only at hx
        subst hx
        exact absurd h (hne _ _ _)
      | ret => simp only [exOf, Exit.inBlock]; exact ⟨by rw [hx]; rfl, hN'⟩
  | .loop c, hdr, fr, H, a, w, out, h, hN => by
    simp only [drawsOk] at hdr
    simp only [exec] at h
    refine wp_loop_fuel (fun a w k => ∃ fr H, loopN (exec C cf f m n c) k fr H = some out ∧ Now C T m K0 (ntOf C f) fr H a w) n ⟨fr, H, h, hN⟩ ?_
    rintro a w k ⟨fr, H, hk, hN⟩
    cases k with
    | zero => simp [loopN] at hk
    | succ k =>
      simp only [loopN] at hk
      split at hk
      · rename_i fr' H' hx
        refine wp_mono (exec_ok hcf hct hmix c hdr hx hN) fun e a' w' hl => ?_
        obtain ⟨rfl, hN'⟩ := hl
        exact ⟨k, Nat.lt_succ_self k, fr', H', hk, hN'⟩
      · rename_i hne
        refine wp_mono (exec_ok hcf hct hmix c hdr hk hN) fun e a' w' hl => ?_
        obtain ⟨rfl, hN'⟩ := hl
        cases hx : out.ex with
        | normal =>
          obtain ⟨ex, fr', H'⟩ := out
          simp only at hx
          subst hx
          exact absurd hk (hne _ _)
        | exit id => simp only [exOf, Exit.then]; exact ⟨by rw [hx]; rfl, hN'⟩
        | ret => simp only [exOf, Exit.then]; exact ⟨by rw [hx]; rfl, hN'⟩
  | .exit id, _, fr, H, a, w, out, h, hN => by
    simp only [exec, Option.some.injEq] at h
    subst h
    exact wp_exit ⟨rfl, hN⟩
  | .ret, _, fr, H, a, w, out, h, hN => by
    simp only [exec, Option.some.injEq] at h
    subst h
    exact wp_ret ⟨rfl, hN⟩
  | .scope .., _, fr, H, a, w, out, h, hN => by simp [exec] at h
  | .label .., _, fr, H, a, w, out, h, hN => by simp [exec] at h
  | .goto .., _, fr, H, a, w, out, h, hN => by simp [exec] at h
  | .refuse .., _, fr, H, a, w, out, h, hN => by simp [exec] at h
  | .rangeFunc .., _, fr, H, a, w, out, h, hN => by simp [exec] at h

end

structure CtxOk (C : Ctx) : Prop where
  mix : C.P.follows .mixedOrders = true
  draws : ∀ f fn c, C.P.funcs[f]? = some fn → fn.body = some c → drawsOk C f c = true

section
variable {C : Ctx} {T : Nat → Nat → Prop} {K : Kx}

theorem loadV_var (hI : Inv C K T) {t : TypeId} {a x : AV} {v : Value} (hv : VRel K T a v) (h : loadV C K.H t a = some x) :
    ∃ u, (do loadVar t (← asAddr v) : Sem Value).run C.P K.w = .ok u K.w ∧ VRel K T x u := by
  obtain ⟨u, h1, h2⟩ := loadV_ok hI hv h
  refine ⟨u, ?_, h2⟩
  have : ∃ ad, v = .pointer (some ad) := by
    unfold loadV at h
    split at h
    · cases h
    · split at h
      · rename_i o i f g
        cases hl : live K.H o g with
        | none => rw [hl] at h; cases h
        | some ob =>
          simp only [VRel, V1Rel, SRel] at hv
          obtain ⟨h3, h4⟩ := live_iff.1 hl
          exact ⟨_, ((hv.2.2 ob h3).2 h4).2⟩
      · simp only [VRel, V1Rel] at hv
        obtain ⟨b, off, h3, _⟩ := hv
        exact ⟨_, h3⟩
      · cases h
  obtain ⟨ad, rfl⟩ := this
  simp only [Instr.loadAt, Instr.sureAddr, Sem.run_bind, Sem.run_pure, Result.andThen_ok] at h1
  simp only [asAddr, Sem.run_bind, Sem.run_pure, Result.andThen_ok]
  exact h1

def resOne (tmps : Array Value) : ResultVar → Sem Value
  | .tmp t => pure (tmps.getD t undef)
  | .cell a t => do loadVar t (← asAddr (tmps.getD a undef))

theorem resultsV_ok (hI : Inv C K T) {fr : Frame} {tmps : Array Value} (hf : FRel K T fr tmps) : ∀ {rs : List ResultVar} {l : List AV}, resultsV C fr K.H rs = some l →
    ∃ us, (rs.mapM (resOne tmps)).run C.P K.w = .ok us K.w ∧ ArgsRel K T l us
  | [], l, h => by
    simp only [resultsV, Option.some.injEq] at h
    subst h
    exact ⟨[], by simp [Sem.run_pure], trivial⟩
  | .tmp t :: r, l, h => by
    simp only [resultsV] at h
    cases hr : resultsV C fr K.H r with
    | none => rw [hr] at h; cases h
    | some l' =>
      rw [hr] at h
      simp only [Option.map_some, Option.some.injEq] at h
      subst h
      obtain ⟨us, h1, h2⟩ := resultsV_ok hI hf hr
      exact ⟨tmps.getD t undef :: us, by simp only [List.mapM_cons, resOne, Sem.run_bind, Sem.run_pure, Result.andThen_ok, h1], hf t, h2⟩
  | .cell a t :: r, l, h => by
    simp only [resultsV] at h
    split at h
    · rename_i x l' hx hr
      simp only [Option.some.injEq] at h
      subst h
      obtain ⟨us, h1, h2⟩ := resultsV_ok hI hf hr
      obtain ⟨u, h3, h4⟩ := loadV_var hI (hf a) hx
      refine ⟨u :: us, ?_, h4, h2⟩
      simp only [List.mapM_cons, resOne]
      rw [Sem.run_bind, h3]
      simp only [Result.andThen_ok, Sem.run_bind, h1, Sem.run_pure]
    · cases h

theorem noTups_v1 : ∀ {l : List AV} {us : List Value}, noTups l = true → ArgsRel K T l us → us.length = l.length ∧ ∀ (j : Nat) (a : AV), l[j]? = some a → ∃ u, us[j]? = some u ∧ V1Rel K T a u
  | [], us, _, h => by rw [h.nil]; simp
  | a :: r, us, hn, h => by
    obtain ⟨v, s, rfl, h1, h2⟩ := h.cons
    have ha : V1Rel K T a v ∧ noTups r = true := by cases a <;> first | exact ⟨h1, hn⟩ | (simp [noTups] at hn; done)
    obtain ⟨h3, h4⟩ := noTups_v1 ha.2 h2
    refine ⟨by simp [h3], fun j b hb => ?_⟩
    cases j with
    | zero =>
      simp only [List.getElem?_cons_zero, Option.some.injEq] at hb
      subst hb
      exact ⟨v, rfl, ha.1⟩
    | succ j => exact h4 j b hb

theorem ArgsRel.len : ∀ {l : List AV} {us : List Value}, ArgsRel K T l us → us.length = l.length
  | [], us, h => by simp [h.nil]
  | a :: r, us, h => by
    obtain ⟨v, s, rfl, h1, h2⟩ := h.cons
    simp [h2.len]

theorem results_ok (hI : Inv C K T) {fr : Frame} {tmps : Array Value} (hf : FRel K T fr tmps) {fn : Func} {l : List AV} (h : resultsV C fr K.H fn.results.toList = some l) :
    ∃ v, (results fn tmps).run C.P K.w = .ok v K.w ∧ VRel K T (resultV l) v := by
  obtain ⟨us, h1, h2⟩ := resultsV_ok hI hf h
  have hlen := h2.len
  refine ⟨if h : us.toArray.size = 1 then us.toArray[0] else .tuple us.toArray, ?_, ?_⟩
  · have : results fn tmps = (do let vs ← fn.results.mapM (resOne tmps); pure (if h : vs.size = 1 then vs[0] else .tuple vs)) := rfl
    rw [this, Array.mapM_eq_mapM_toList]
    simp only [Sem.run_bind, map_eq_pure_bind, h1, Result.andThen_ok, Sem.run_pure]
  · split
    · rename_i hs
      simp only [List.size_toArray] at hs
      rw [hs] at hlen
      cases l with
      | nil => simp at hlen
      | cons a r =>
        cases r with
        | nil =>
          obtain ⟨v, s, rfl, h3, h4⟩ := h2.cons
          exact h3
        | cons => simp at hlen
    · rename_i hs
      simp only [List.size_toArray] at hs
      have : resultV l = if noTups l then .tup l else .top := by
        cases l with
        | nil => rfl
        | cons a r =>
          cases r with
          | nil => simp at hlen; exact absurd hlen hs
          | cons => rfl
      rw [this]
      split
      · rename_i hn
        obtain ⟨h3, h4⟩ := noTups_v1 hn h2
        simp only [VRel]
        exact ⟨us.toArray, rfl, by simpa using h3, fun j a ha => by obtain ⟨u, h5, h6⟩ := h4 j a ha; exact ⟨u, by simpa using h5, h6⟩⟩
      · exact VRel.top _ _ _

theorem numbered_rel : ∀ {l : List AV} {us : List Value} {k : Nat}, ArgsRel K T l us → ∀ i, (k ≤ i ∧ i < k + us.length ∧ ∃ u, us[i - k]? = some u ∧ VRel K T (getF (numbered k l) i) u) ∨ getF (numbered k l) i = .top
  | [], us, k, _, i => .inr rfl
  | a :: r, us, k, h, i => by
    obtain ⟨v, s, rfl, h1, h2⟩ := h.cons
    simp only [numbered, getF]
    split
    · rename_i hk
      subst hk
      left
      refine ⟨Nat.le_refl _, by simp, v, by simp, h1⟩
    · rcases numbered_rel (k := k + 1) h2 i with ⟨h3, h4, u, h5, h6⟩ | h3
      · left
        simp only [List.length_cons]
        refine ⟨by omega, by omega, u, ?_, h6⟩
        rw [show i - k = (i - (k + 1)) + 1 by omega]
        simpa using h5
      · exact .inr h3

theorem runBody_ok (hC : CtxOk C) {cf : Cf} (hcf : CfOk C cf) (hct : CfTouch C cf) (n : Nat) : CfOk C (runBody C cf n) := by
  intro f args H x H' h K T vs hK hI ha
  subst hK
  unfold runBody at h
  split at h
  · cases h
  · rename_i fn hF
    split at h
    · cases h
    · rename_i c hc
      refine calls_of_wp hF hc ?_
      have hN : Now C T K.H.length K (ntOf C f) (numbered 0 args) K.H { tmps := vs ++ Array.replicate (fn.ntmps - vs.size) undef, defers := [] } K.w := by
        refine ⟨K.μ, hI, Evo.refl T K (Nat.le_refl _), fun i => ?_, ?_, rfl⟩
        · rcases numbered_rel (k := 0) ha i with ⟨_, h2, u, h3, h4⟩ | h1
          · rw [Nat.sub_zero] at h3
            have : (vs ++ Array.replicate (fn.ntmps - vs.size) undef).getD i undef = u := by
              have hlt : i < vs.size := by simpa using h2
              rw [Array.getD_eq_getD_getElem?, Array.getElem?_append_left hlt, ← Array.getElem?_toList, h3]
              rfl
            rw [this]
            exact h4
          · rw [h1]; exact VRel.top _ _ _
        · simp only [ntOf, hF, Option.map_some, Option.getD_some, Array.size_append, Array.size_replicate]
          omega
      have key : ∀ (out : Out), exec C cf f K.H.length n c (numbered 0 args) K.H = some out → (out.ex = .normal ∨ out.ex = .ret) → (resultsV C out.fr out.H fn.results.toList).map (fun l => (resultV l, out.H)) = some (x, H') →
          c.wp C.P (bodyPost C.P fn (Gives C T K x H')) { tmps := vs ++ Array.replicate (fn.ntmps - vs.size) undef, defers := [] } K.w := by
        intro out hout hex hres
        refine wp_mono (exec_ok hcf hct hC.mix c (hC.draws f fn c hF hc) hout hN) fun e a' w' hl => ?_
        obtain ⟨rfl, μ, hI', hE, hf, _, hd⟩ := hl
        cases hr : resultsV C out.fr out.H fn.results.toList with
        | none => rw [hr] at hres; cases hres
        | some l =>
          rw [hr] at hres
          simp only [Option.map_some, Option.some.injEq, Prod.mk.injEq] at hres
          obtain ⟨rfl, rfl⟩ := hres
          obtain ⟨v, h1, h2⟩ := results_ok hI' hf hr
          rcases hex with hex | hex <;> rw [hex] <;> exact ⟨hd, v, h1, μ, hI', hE, h2⟩
      split at h
      · rename_i fr' H1 hx
        exact key _ hx (.inl rfl) h
      · rename_i fr' H1 hx
        exact key _ hx (.inr rfl) h
      · cases h

theorem callF_ok (hC : CtxOk C) : ∀ n, CfOk C (callF C n)
  | 0 => by intro f args H x H' h; simp [callF] at h
  | n + 1 => by
    have := enterV_ok (runBody_ok hC (callF_ok hC n) (callF_touch n) n)
    exact this

end

end Go.AM

/- A law's statement out of a run of the abstract machine. -/
namespace Go.AM
open Go.ChangeShapes Go.WideShapes Go.ChangeAt Go.RowKit

/-- tags: 0: what is new; the others: all -/
def T0 (n : Nat) (t b : Nat) : Prop := n ≤ b ∨ t ≠ 0

def start (W : World) : Kx := ⟨fun _ => default, [], W⟩

theorem start_own (W : World) (b : Nat) : ¬ Own (start W) b := by
  rintro ⟨o, ob, h, _⟩
  simp [start] at h

/-- the package variables that the machine reads hold what it takes them to hold -/
def GOk (C : Ctx) (W : World) : Prop := ∀ g p, C.G g = some p → plen p ≠ 0 ∧ g < W.heap.size ∧ RP W (fun b => b < W.heap.size) p (fun j => W.cell? ⟨g, j, none⟩)

theorem GOk.none {C : Ctx} (hG : ∀ g, C.G g = none) (W : World) : GOk C W := fun g p h => by rw [hG] at h; cases h

theorem start_inv {C : Ctx} {W : World} (hG : GOk C W) : Inv C (start W) (T0 W.heap.size) where
  obj := fun o ob h => by simp [start] at h
  inj := fun o o' ob ob' h => by simp [start] at h
  own := fun b h => absurd h (start_own W b)
  new := fun b h => .inl h
  mono := fun t b h => by
    rcases h with h | h
    · exact .inl h
    · exact absurd rfl h
  glob := fun g p h => by
    obtain ⟨h1, h2, h3⟩ := hG g p h
    have hn : ∀ b, b < W.heap.size → NT (start W) (T0 W.heap.size) gtag b := fun b hb => ⟨.inr (by simp [gtag]), start_own W b, hb⟩
    exact ⟨h1, hn g h2, RP_mono (w' := (start W).w) (fun b hb => ⟨hn b hb, fun _ _ h => h⟩) p _ _ (fun _ _ h => h) h3⟩

/-- what a law's run says -/
def LawEnds (W : World) (e : Ending) (W' : World) : Prop :=
  e = .returned (.bool true) ∧ W'.os = W.os ∧ W'.output = W.output ∧ ∀ b : Nat, b < W.heap.size → W'.heap[b]? = W.heap[b]?

theorem law_calls {C : Ctx} (hC : CtxOk C) {n f : Nat} {args : List AV} {vs : Array Value} {W : World} {H' : Heap} (hG : GOk C W) (h : callF C n f args [] = some (.bool true, H'))
    (ha : ArgsRel (start W) (T0 W.heap.size) args vs.toList) : Calls C.P f vs W (LawEnds W) := by
  have := callF_ok hC n f args [] _ H' h (start W) (T0 W.heap.size) vs rfl (start_inv hG) ha
  refine Calls.mono this fun e W' he => ?_
  cases e with
  | panicked => exact he.elim
  | outgrown => exact he.elim
  | returned v =>
    obtain ⟨μ, hI, hE, hv⟩ := he
    simp only [VRel, V1Rel, SRel, RV] at hv
    subst hv
    refine ⟨rfl, hE.os, hE.output, fun b hb => hE.exact b hb (start_own W b) ?_⟩
    rintro (h | h)
    · have : b < W.heap.size := hb
      omega
    · exact h rfl

section
variable {H : Type} {enc : TypeId × Value → H}

theorem law_post {P : Program} {f : Func} {s : ChangeSpec} {apart fresh handsOn again : Bool} {W W' : World} {args : Array Value} {ds gs : List (DataW H)} {before : List MemPlace} {rt : TypeId}
    (hrow : laidOutB P = true) (hmap : mapsRowed P = true) (hfull : ∀ t e, t < P.types.size → P.underlying t = some (.slice e) → 0 < P.cellsOf e) (hparams : ∀ t ∈ f.params.toList, t < P.types.size)
    (hvars : s.vars = []) (hrt : f.resultTypes = #[rt]) (hb : P.underlying rt = some .bool)
    (hW : DataW.Whole enc P f.params.toList s.vars apart W args.toList ds gs before) (hfn : s.fn H ds = { results := [.lit (.bool true)], args := ds })
    (hos : W'.os = W.os) (hout : W'.output = W.output) (hsame : ∀ b : Nat, b < W.heap.size → W'.heap[b]? = W.heap[b]?) :
    s.post enc P f apart fresh handsOn again W args (.bool true) W' := by
  have hlt := hW.lt
  have hcell : ∀ b off, b < W.heap.size → W'.cell? ⟨b, off, none⟩ = W.cell? ⟨b, off, none⟩ := fun b off h => cell_of_heap (hsame b h) off
  have hfz : ∀ a : Addr, a.block < W.heap.size → W'.frozen? a = W.frozen? a := fun a h => by unfold World.frozen?; rw [hsame _ h]
  have hat : ∀ p ∈ before, W.sameAt W' p := by
    intro p hp
    have := hlt p hp
    cases p with
    | cell b off => exact hcell b off this
    | map b => exact hsame b this
  have K := kids_rows hrow hmap
  obtain ⟨p, q, hA, hV, hps, hz, hn⟩ := id hW
  rw [hvars] at hV
  obtain ⟨rfl, rfl⟩ := trodVars_none hV
  simp only [List.append_nil] at hps
  subst hps
  -- the arguments again
  have again' : ∀ sp : Nat → Bool, (∀ x ∈ before, sp x.block = true) → DataW.TrodAll enc P W' 0 sp true f.params.toList args.toList ds before := by
    intro sp hsp
    have carry : ∀ {ts : List TypeId} {vs : List Value} {ds : List (DataW H)} {ps : List MemPlace}, DataW.TrodAll enc P W 0 (fun _ => true) true ts vs ds ps → (∀ x ∈ ps, W.sameAt W' x) → DataW.TrodAll enc P W' 0 (fun _ => true) true ts vs ds ps := by
      intro ts
      induction ts with
      | nil => intro vs ds ps h _; cases vs <;> cases ds <;> first | exact h | exact h.elim
      | cons t ts ih =>
        intro vs ds ps h hs
        cases vs with
        | nil => exact h.elim
        | cons v vs =>
          cases ds with
          | nil => exact h.elim
          | cons d ds =>
            obtain ⟨a, b, ⟨n, h1⟩, h2, e⟩ := h
            subst e
            exact ⟨a, b, ⟨n, DataW.trod_carry n t _ _ h1 fun x hx => hs x (List.mem_append_left _ hx)⟩, ih h2 fun x hx => hs x (List.mem_append_right _ hx), rfl⟩
    exact DataW.TrodAll.respare K hfull hparams (carry hA hat) hsp
  have hres : ∀ (b : Nat) (sp : Nat → Bool) (hd : Bool), DataW.TrodAll enc P W' b sp hd f.resultTypes.toList ((Value.bool true).resultList f.resultTypes.size) [.lit (.bool true)] [] := by
    intro b sp hd
    rw [hrt]
    exact trodAll_mk1 (shut_bool hb true)
  have hfn' : s.fn H (ds ++ []) = { results := [.lit (.bool true)], args := ds } := by rw [List.append_nil]; exact hfn
  have hold : ∀ x ∈ before, (fun b => decide (b < W.heap.size)) x.block = true := fun x hx => by simpa using hlt x hx
  have hkept : W.keptBut W' (fun x => x ∈ before ∧ x ∈ before ++ []) := by
    refine ⟨hos, hout, fun i hi => ?_⟩
    rw [hsame i hi]
    generalize W.heap[i]? = x
    rcases x with _ | x
    · rfl
    · cases x <;> simp
  refine ⟨ds, [], before, [], before, [], hW, ?_, ?_, ?_, ?_, fun _ => ?_⟩
  · rw [hfn']; exact hres _ _ _
  · rw [hfn']; exact again' _ hold
  · rw [hfn', hvars]; rfl
  · refine World.keptBut_mono (fun x hx => ?_) hkept
    exact ⟨hx.1, .inr (.inl hx.1)⟩
  · refine ⟨ok_one hrt rfl (okWide_bool_mk hb true), [.lit (.bool true)] ++ ds, [], ([] ++ before) ++ [], ⟨[] ++ before, [], ?_, ?_, rfl, ?_, ?_⟩, ?_⟩
    · exact trodAll_append (again' _ (fun _ _ => rfl)) (hres _ _ _)
    · rw [hvars]; rfl
    · intro b off hp
      have hp' : MemPlace.cell b off ∈ before := by simpa using hp
      rw [hfz ⟨b, off, none⟩ (hlt (MemPlace.cell b off) hp')]
      exact hz b off hp'
    · intro ha
      simpa using hn ha
    · intro x hx _
      simpa using hx

/-- the arguments, read as they came, and a run of the machine that tells true -/
theorem law_lifted {a : Assume} {D : Checked} {X : Ctx} (hX : X.P = D.prog) (hC : CtxOk X) (hG : ∀ g, X.G g = none) {os : Os} {f : FuncId} {fn : Func} {s : ChangeSpec} {conds : List PathCond} {apart fresh handsOn again : Bool} {rt : TypeId}
    (own : ownKnob D.prog.godebug = none) (started : os.Started) (noInit : D.prog.inits.idxOf? f = none) (hfn : D.prog.funcs[f]? = some fn)
    (witness : ∃ (w : World) (tape : Tape) (i : Input), w.os = os ∧ (w.forCall tape i).Shaped D.prog ∧ i.vars = [] ∧ Input.okWide D.prog (w.forCall tape i) .any w.heap.size f i ∧
      s.pre6 enc D.prog fn conds apart (w.forCall tape i).memory i.args ∧ a.holds D.prog (lone (Frame.enter D.prog f i.args .normal) [] (w.forCall tape i)))
    (hrow : laidOutB D.prog = true) (hmap : mapsRowed D.prog = true) (hfull : ∀ t e, t < D.prog.types.size → D.prog.underlying t = some (.slice e) → 0 < D.prog.cellsOf e) (hparams : ∀ t ∈ fn.params.toList, t < D.prog.types.size)
    (hvars : s.vars = []) (hrt : fn.resultTypes = #[rt]) (hb : D.prog.underlying rt = some .bool)
    (hspec : ∀ ds : List (DataW H), ds.length = fn.params.toList.length → s.fn H ds = { results := [.lit (.bool true)], args := ds })
    (run : ∀ (W : World) (base : Nat) (args : Array Value) (ds : List (DataW H)) (ps : List MemPlace),
      (∀ (j : Nat) t v, fn.params[j]? = some t → args[j]? = some v → Value.okWide D.prog W .any base t v) →
      DataW.TrodAll enc D.prog W 0 (fun _ => true) true fn.params.toList args.toList ds ps →
      ∃ n as H', callF X n f as [] = some (.bool true, H') ∧ ArgsRel (start W) (T0 W.heap.size) as args.toList) :
    ReturnsInHanded a D os f .any (s.pre6 enc D.prog fn conds apart) (s.post enc D.prog fn apart fresh handsOn again) := by
  refine returnsInHanded_of_change own started noInit hfn witness ?_
  intro W base args ds gs before hval hW _ _
  obtain ⟨p, q, hA, hV, _, _, _⟩ := id hW
  obtain ⟨n, as, H', h1, h2⟩ := run W base args ds p hval hA
  have hcalls := law_calls hC (GOk.none hG W) h1 h2
  rw [hX] at hcalls
  refine Calls.mono hcalls fun e W' he => ?_
  obtain ⟨he, hos, hout, hsame⟩ := he
  exact ⟨_, he, law_post hrow hmap hfull hparams hvars hrt hb hW (hspec ds (trodAll_length hA).2) hos hout hsame⟩

/-- the same where the row lists what package variables hold -/
theorem law_lifted_laid {a : Assume} {D : Checked} {X : Ctx} (hX : X.P = D.prog) (hC : CtxOk X) {laid : List (String × DataW Unit)} (hG : ∀ W : World, laidMetH D.prog laid W → GOk X W)
    {os : Os} {f : FuncId} {fn : Func} {s : ChangeSpec} {conds : List PathCond} {apart fresh handsOn again : Bool} {rt : TypeId}
    (own : ownKnob D.prog.godebug = none) (started : os.Started) (noInit : D.prog.inits.idxOf? f = none) (hfn : D.prog.funcs[f]? = some fn)
    (witness : ∃ (w : World) (tape : Tape) (i : Input), w.os = os ∧ (w.forCall tape i).Shaped D.prog ∧ i.vars = [] ∧ Input.okWide D.prog (w.forCall tape i) .any w.heap.size f i ∧
      ((s.pre enc D.prog fn conds apart (w.forCall tape i).memory i.args ∧ laidMetH D.prog laid (w.forCall tape i).memory) ∧ sizedMet enc D.prog fn (OpenSpec.ofChange s) apart (w.forCall tape i).memory i.args) ∧
      a.holds D.prog (lone (Frame.enter D.prog f i.args .normal) [] (w.forCall tape i)))
    (hrow : laidOutB D.prog = true) (hmap : mapsRowed D.prog = true) (hfull : ∀ t e, t < D.prog.types.size → D.prog.underlying t = some (.slice e) → 0 < D.prog.cellsOf e) (hparams : ∀ t ∈ fn.params.toList, t < D.prog.types.size)
    (hvars : s.vars = []) (hrt : fn.resultTypes = #[rt]) (hb : D.prog.underlying rt = some .bool)
    (hspec : ∀ ds : List (DataW H), ds.length = fn.params.toList.length → s.fn H ds = { results := [.lit (.bool true)], args := ds })
    (run : ∀ (W : World) (base : Nat) (args : Array Value) (ds : List (DataW H)) (ps : List MemPlace),
      (∀ (j : Nat) t v, fn.params[j]? = some t → args[j]? = some v → Value.okWide D.prog W .any base t v) →
      DataW.TrodAll enc D.prog W 0 (fun _ => true) true fn.params.toList args.toList ds ps →
      ∃ n as H', callF X n f as [] = some (.bool true, H') ∧ ArgsRel (start W) (T0 W.heap.size) as args.toList) :
    ReturnsInHanded a D os f .any (fun w args => (s.pre enc D.prog fn conds apart w args ∧ laidMetH D.prog laid w) ∧ sizedMet enc D.prog fn (OpenSpec.ofChange s) apart w args) (s.post enc D.prog fn apart fresh handsOn again) := by
  refine returnsInHanded_of_change_and (X := fun w _ => laidMetH D.prog laid w) (fun _ _ _ hh h => h.of_heap hh) own started noInit hfn witness ?_
  intro W base args ds gs before hval hW _ _ hL _
  obtain ⟨p, q, hA, hV, _, _, _⟩ := id hW
  obtain ⟨n, as, H', h1, h2⟩ := run W base args ds p hval hA
  have hcalls := law_calls hC (hG W hL) h1 h2
  rw [hX] at hcalls
  refine Calls.mono hcalls fun e W' he => ?_
  obtain ⟨he, hos, hout, hsame⟩ := he
  exact ⟨_, he, law_post hrow hmap hfull hparams hvars hrt hb hW (hspec ds (trodAll_length hA).2) hos hout hsame⟩

end

/-- all drawing regions of the program, at once -/
def drawsAll (C : Ctx) : Bool :=
  (List.range C.P.funcs.size).all fun f => match C.P.funcs[f]? with
    | some fn => match fn.body with
      | some c => drawsOk C f c
      | none => true
    | none => true

theorem ctxOk_of {C : Ctx} (mix : C.P.follows .mixedOrders = true) (h : drawsAll C = true) : CtxOk C where
  mix := mix
  draws := by
    intro f fn c hf hc
    have hlt : f < C.P.funcs.size := (Array.getElem?_eq_some_iff.1 hf).1
    have := List.all_eq_true.1 h f (List.mem_range.2 hlt)
    rw [hf] at this
    simp only [hc] at this
    exact this

def isTrue : Option (AV × Heap) → Bool
  | some (.bool true, _) => true
  | _ => false

theorem isTrue_some {r : Option (AV × Heap)} (h : isTrue r = true) : ∃ H', r = some (.bool true, H') := by
  unfold isTrue at h
  split at h
  · exact ⟨_, rfl⟩
  · cases h

def litVal : Lit → Value
  | .bool b => .bool b
  | .int k n => .int k n
  | .string b => .string ⟨⟨b⟩⟩
  | _ => undef

mutual
/-- a plain datum's cells -/
def cellsD : DataW Unit → List Value
  | .lit l => [litVal l]
  | .agg ps => cellsDs ps
  | _ => [undef]
def cellsDs : List (DataW Unit) → List Value
  | [] => []
  | d :: r => cellsD d ++ cellsDs r
end

/-- a world whose listed variables hold what is listed -/
noncomputable def laidWorld (P : Program) (os : Os) (laid : List (String × DataW Unit)) : World :=
  let w0 := World.holding P os ⟨#[], #[], []⟩
  { w0 with heap := laid.foldl (fun h x => match P.globalNamed x.1 with
      | some g => h.modify g fun
        | .cells _ t frozen => .cells (cellsD x.2).toArray t frozen
        | o => o
      | none => h) w0.heap }

end Go.AM

/- What is told with known calls: runs over a table of calls. -/
namespace Go.AM

section
variable {C : Ctx}

/-- the call tells r, whatever fuel is left over -/
def Ev1 (C : Ctx) (f : Nat) (args : List AV) (H : Heap) (r : AV × Heap) : Prop := ∃ n0, ∀ n, n0 ≤ n → callF C n f args H = some r

/-- what the table tells is so -/
def Below (C : Ctx) (T : Cf) : Prop := ∀ f args H r, T f args H = some r → Ev1 C f args H r

theorem step_ev {T : Cf} (hT : Below C T) {fr : Frame} {H : Heap} {o : Oper} {r : AV × Heap} (h : step C T fr H o = some r) : ∃ n0, ∀ n, n0 ≤ n → step C (callF C n) fr H o = some r := by
  obtain ⟨dst, op, type, pos, after, guard⟩ := o
  cases op <;> try exact ⟨0, fun _ _ => h⟩
  case makeFunc fn first caps => cases fn <;> exact ⟨0, fun _ _ => h⟩
  case call c =>
    simp only [step, callV] at h ⊢
    cases hc : c.callee with
    | builtin b => rw [hc] at h; exact ⟨0, fun _ _ => h⟩
    | value x =>
      rw [hc] at h
      simp only at h ⊢
      split at h
      · rename_i f caps he
        split at h
        · obtain ⟨n0, hn⟩ := hT _ _ _ _ h
          refine ⟨n0, fun n hl => ?_⟩
          rename_i hb
          rw [if_pos hb]
          exact hn n hl
        · cases h
      · cases h
    | invoke r n => rw [hc] at h; cases h

theorem out1_ev {T : Cf} (hT : Below C T) {nt : Nat} {ops : Array Oper} {o : Oper} {fr : Frame} {H : Heap} {r : AV × Heap} (h : out1 C T nt ops o fr H = some r) : ∃ n0, ∀ n, n0 ≤ n → out1 C (callF C n) nt ops o fr H = some r := by
  unfold out1 at h ⊢
  split at h
  · rename_i hd
    simp only [hd, if_true]
    split at h
    · exact step_ev hT h
    · exact ⟨0, fun _ _ => h⟩
    · cases h
  · cases h

theorem runOps_ev {T : Cf} (hT : Below C T) {nt : Nat} {ops : Array Oper} : ∀ {l : List Oper} {fr : Frame} {H : Heap} {r : Frame × Heap}, runOps C T nt ops l fr H = some r → ∃ n0, ∀ n, n0 ≤ n → runOps C (callF C n) nt ops l fr H = some r
  | [], fr, H, r, h => ⟨0, fun _ _ => h⟩
  | o :: l, fr, H, r, h => by
    rw [runOps_cons] at h
    split at h
    · rename_i v H1 hv
      obtain ⟨n0, h0⟩ := out1_ev hT hv
      obtain ⟨n1, h1⟩ := runOps_ev hT h
      refine ⟨max n0 n1, fun n hn => ?_⟩
      rw [runOps_cons, h0 n (by omega)]
      exact h1 n (by omega)
    · cases h

theorem runD_ev {T : Cf} (hT : Below C T) {nt : Nat} {ops : Array Oper} : ∀ {l : List Oper} {fr : Frame} {H : Heap} {r : Frame × Heap × List Mark}, runD C T nt ops l fr H = some r → ∃ n0, ∀ n, n0 ≤ n → runD C (callF C n) nt ops l fr H = some r
  | [], fr, H, r, h => ⟨0, fun _ _ => h⟩
  | o :: l, fr, H, r, h => by
    simp only [runD] at h
    split at h
    · rename_i v H1 hv
      split at h
      · rename_i fr' H2 ms hr
        obtain ⟨n0, h0⟩ := out1_ev hT hv
        obtain ⟨n1, h1⟩ := runD_ev hT hr
        refine ⟨max n0 n1, fun n hn => ?_⟩
        simp only [runD]
        rw [h0 n (by omega)]
        simp only
        rw [h1 n (by omega)]
        exact h
      · cases h
    · cases h

theorem exec_ev {T : Cf} (hT : Below C T) {f m k : Nat} : (c : Code) → ∀ {fr : Frame} {H : Heap} {out : Out}, exec C T f m k c fr H = some out → ∃ n0, ∀ n, n0 ≤ n → ∀ k', k ≤ k' → exec C (callF C n) f m k' c fr H = some out
  | .skip, fr, H, out, h => ⟨0, fun _ _ _ _ => h⟩
  | .region id ops draw, fr, H, out, h => by
    simp only [exec] at h ⊢
    split at h
    · rename_i hd
      simp only [hd, if_true]
      split at h
      · rename_i fr' H' ms hr
        obtain ⟨n0, h0⟩ := runD_ev hT hr
        refine ⟨n0, fun n hn k' _ => ?_⟩
        rw [h0 n hn]
        exact h
      · cases h
    · rename_i hd
      simp only [hd, Bool.false_eq_true, if_false]
      split at h
      · cases h
      · rename_i hd2
        simp only [hd2, Bool.false_eq_true, if_false]
        split at h
        · rename_i fr' H' hr
          obtain ⟨n0, h0⟩ := runOps_ev hT hr
          refine ⟨n0, fun n hn k' _ => ?_⟩
          rw [h0 n hn]
          exact h
        · cases h
  | .seq a b, fr, H, out, h => by
    simp only [exec] at h ⊢
    split at h
    · rename_i fr' H' ha
      obtain ⟨n0, h0⟩ := exec_ev hT a ha
      obtain ⟨n1, h1⟩ := exec_ev hT b h
      refine ⟨max n0 n1, fun n hn k' hk => ?_⟩
      rw [h0 n (by omega) k' hk]
      exact h1 n (by omega) k' hk
    · rename_i hne
      obtain ⟨n0, h0⟩ := exec_ev hT a h
      refine ⟨n0, fun n hn k' hk => ?_⟩
      rw [h0 n hn k' hk]
      obtain ⟨ex, fr', H'⟩ := out
      cases ex with
      | normal => exact absurd h (hne _ _)
      | exit id => rfl
      | ret => rfl
  | .cond c a b, fr, H, out, h => by
    simp only [exec] at h ⊢
    split at h
    · rename_i d hd
      cases d with
      | true => exact exec_ev hT a h
      | false => exact exec_ev hT b h
    · cases h
  | .block id c, fr, H, out, h => by
    simp only [exec] at h ⊢
    split at h
    · rename_i id' fr' H' hc
      obtain ⟨n0, h0⟩ := exec_ev hT c hc
      refine ⟨n0, fun n hn k' hk => ?_⟩
      rw [h0 n hn k' hk]
      exact h
    · rename_i hne
      obtain ⟨n0, h0⟩ := exec_ev hT c h
      refine ⟨n0, fun n hn k' hk => ?_⟩
      rw [h0 n hn k' hk]
      obtain ⟨ex, fr', H'⟩ := out
      cases ex with
      | normal => rfl
      | exit id => exact absurd h (hne _ _ _)
      | ret => rfl
  | .loop c, fr, H, out, h => by
    simp only [exec] at h ⊢
    have key : ∀ j, ∀ {fr : Frame} {H : Heap}, loopN (exec C T f m k c) j fr H = some out → ∃ n0, ∀ n, n0 ≤ n → ∀ k', k ≤ k' → ∀ j', j ≤ j' → loopN (exec C (callF C n) f m k' c) j' fr H = some out := by
      intro j
      induction j with
      | zero => intro fr H h; simp [loopN] at h
      | succ j ih =>
        intro fr H h
        simp only [loopN] at h
        split at h
        · rename_i fr' H' hc
          obtain ⟨n0, h0⟩ := exec_ev hT c hc
          obtain ⟨n1, h1⟩ := ih h
          refine ⟨max n0 n1, fun n hn k' hk j' hj => ?_⟩
          obtain ⟨j', rfl⟩ : ∃ i, j' = i + 1 := ⟨j' - 1, by omega⟩
          simp only [loopN]
          rw [h0 n (by omega) k' hk]
          exact h1 n (by omega) k' hk j' (by omega)
        · rename_i hne
          obtain ⟨n0, h0⟩ := exec_ev hT c h
          refine ⟨n0, fun n hn k' hk j' hj => ?_⟩
          obtain ⟨j', rfl⟩ : ∃ i, j' = i + 1 := ⟨j' - 1, by omega⟩
          simp only [loopN]
          rw [h0 n hn k' hk]
          obtain ⟨ex, fr', H'⟩ := out
          cases ex with
          | normal => exact absurd h (hne _ _)
          | exit id => rfl
          | ret => rfl
    obtain ⟨n0, h0⟩ := key k h
    exact ⟨n0, fun n hn k' hk => h0 n hn k' hk k' hk⟩
  | .exit id, fr, H, out, h => ⟨0, fun _ _ _ _ => h⟩
  | .ret, fr, H, out, h => ⟨0, fun _ _ _ _ => h⟩
  | .scope .., fr, H, out, h => by simp [exec] at h
  | .label .., fr, H, out, h => by simp [exec] at h
  | .goto .., fr, H, out, h => by simp [exec] at h
  | .refuse .., fr, H, out, h => by simp [exec] at h
  | .rangeFunc .., fr, H, out, h => by simp [exec] at h

theorem runBody_ev {T : Cf} (hT : Below C T) {k f : Nat} {args : List AV} {H : Heap} {r : AV × Heap} (h : runBody C T k f args H = some r) : ∃ n0, ∀ n, n0 ≤ n → runBody C (callF C n) n f args H = some r := by
  unfold runBody at h ⊢
  cases hF : C.P.funcs[f]? with
  | none => rw [hF] at h; cases h
  | some fn =>
    rw [hF] at h
    simp only at h ⊢
    cases hb : fn.body with
    | none => rw [hb] at h; cases h
    | some c =>
      rw [hb] at h
      simp only at h ⊢
      cases he : exec C T f H.length k c (numbered 0 args) H with
      | none => rw [he] at h; cases h
      | some out =>
        obtain ⟨n0, h0⟩ := exec_ev hT c he
        refine ⟨max n0 k, fun n hn => ?_⟩
        rw [h0 n (by omega) n (by omega)]
        rw [he] at h
        exact h

/-- a call whose body is run over a table -/
theorem enter_ev {T : Cf} (hT : Below C T) {k f : Nat} {args : List AV} {H : Heap} {r : AV × Heap} (h : enterV C (runBody C T k) f args H = some r) : Ev1 C f args H r := by
  unfold enterV at h
  split at h
  · cases h
  · rename_i as lents hl
    simp only at h
    split at h
    · rename_i hc
      split at h
      · cases h
      · rename_i v H1 hb
        obtain ⟨n0, h0⟩ := runBody_ev hT hb
        refine ⟨n0 + 1, fun n hn => ?_⟩
        obtain ⟨n, rfl⟩ : ∃ i, n = i + 1 := ⟨n - 1, by omega⟩
        show enterV C (runBody C (callF C n) n) f args H = some r
        unfold enterV
        rw [hl]
        simp only
        rw [if_pos hc, h0 n (by omega)]
        exact h
    · cases h

theorem Below.none : Below C (fun _ _ _ => none) := by intro f args H r h; cases h

/-- calls out of the table, the others run -/
def callT (C : Ctx) (T : Cf) : Nat → Cf
  | 0, f, args, H => T f args H
  | n + 1, f, args, H => match T f args H with
    | some r => some r
    | none => enterV C (runBody C (callT C T n) n) f args H

theorem callT_below {T : Cf} (hT : Below C T) : ∀ n, Below C (callT C T n)
  | 0 => hT
  | n + 1 => by
    intro f args H r h
    simp only [callT] at h
    split at h
    · rename_i r' hr
      rw [← Option.some.inj h]
      exact hT _ _ _ _ hr
    · exact enter_ev (callT_below hT n) h

theorem loopN_mono {b b' : Frame → Heap → Option Out} (hb : ∀ fr H out, b fr H = some out → b' fr H = some out) : ∀ {j j' : Nat} {fr : Frame} {H : Heap} {out : Out}, j ≤ j' → loopN b j fr H = some out → loopN b' j' fr H = some out
  | 0, j', fr, H, out, _, h => by simp [loopN] at h
  | j + 1, j', fr, H, out, hj, h => by
    obtain ⟨j', rfl⟩ : ∃ i, j' = i + 1 := ⟨j' - 1, by omega⟩
    simp only [loopN] at h ⊢
    split at h
    · rename_i fr' H' hc
      rw [hb _ _ _ hc]
      exact loopN_mono hb (by omega) h
    · rename_i hne
      rw [hb _ _ _ h]
      obtain ⟨ex, fr', H'⟩ := out
      cases ex with
      | normal => exact absurd h (hne _ _)
      | exit id => rfl
      | ret => rfl

theorem exec_mono {T : Cf} {f m k k' : Nat} (hk : k ≤ k') : (c : Code) → ∀ (fr : Frame) (H : Heap) (out : Out), exec C T f m k c fr H = some out → exec C T f m k' c fr H = some out
  | .skip, fr, H, out, h => h
  | .region id ops draw, fr, H, out, h => h
  | .seq a b, fr, H, out, h => by
    simp only [exec] at h ⊢
    split at h
    · rename_i fr' H' ha
      rw [exec_mono hk a _ _ _ ha]
      exact exec_mono hk b _ _ _ h
    · rename_i hne
      rw [exec_mono hk a _ _ _ h]
      obtain ⟨ex, fr', H'⟩ := out
      cases ex with
      | normal => exact absurd h (hne _ _)
      | exit id => rfl
      | ret => rfl
  | .cond c a b, fr, H, out, h => by
    simp only [exec] at h ⊢
    split at h
    · rename_i d hd
      cases d with
      | true => exact exec_mono hk a _ _ _ h
      | false => exact exec_mono hk b _ _ _ h
    · cases h
  | .block id c, fr, H, out, h => by
    simp only [exec] at h ⊢
    split at h
    · rename_i id' fr' H' hc
      rw [exec_mono hk c _ _ _ hc]
      exact h
    · rename_i hne
      rw [exec_mono hk c _ _ _ h]
      obtain ⟨ex, fr', H'⟩ := out
      cases ex with
      | normal => rfl
      | exit id => exact absurd h (hne _ _ _)
      | ret => rfl
  | .loop c, fr, H, out, h => by
    simp only [exec] at h ⊢
    exact loopN_mono (exec_mono hk c) hk h
  | .exit id, fr, H, out, h => h
  | .ret, fr, H, out, h => h
  | .scope .., fr, H, out, h => by simp [exec] at h
  | .label .., fr, H, out, h => by simp [exec] at h
  | .goto .., fr, H, out, h => by simp [exec] at h
  | .refuse .., fr, H, out, h => by simp [exec] at h
  | .rangeFunc .., fr, H, out, h => by simp [exec] at h

/-- code that tells out, with some fuel -/
def Run (C : Ctx) (T : Cf) (f m : Nat) (c : Code) (fr : Frame) (H : Heap) (out : Out) : Prop := ∃ k, exec C T f m k c fr H = some out

variable {T : Cf} {f m : Nat} {fr fr' : Frame} {H H' : Heap} {out : Out}

theorem Run.seq {a b : Code} (h : Run C T f m a fr H ⟨.normal, fr', H'⟩) (h' : Run C T f m b fr' H' out) : Run C T f m (.seq a b) fr H out := by
  obtain ⟨k0, h0⟩ := h
  obtain ⟨k1, h1⟩ := h'
  refine ⟨max k0 k1, ?_⟩
  simp only [exec]
  rw [exec_mono (Nat.le_max_left k0 k1) a _ _ _ h0]
  exact exec_mono (Nat.le_max_right k0 k1) b _ _ _ h1

theorem Run.seq_out {a b : Code} (h : Run C T f m a fr H out) (hne : out.ex ≠ .normal) : Run C T f m (.seq a b) fr H out := by
  obtain ⟨k0, h0⟩ := h
  refine ⟨k0, ?_⟩
  simp only [exec]
  rw [h0]
  obtain ⟨ex, fr', H'⟩ := out
  cases ex with
  | normal => exact absurd rfl hne
  | exit id => rfl
  | ret => rfl

theorem Run.cond {c : Operand} {a b : Code} {d : Bool} (hc : evalO C fr c = .bool d) (h : Run C T f m (if d then a else b) fr H out) : Run C T f m (.cond c a b) fr H out := by
  obtain ⟨k0, h0⟩ := h
  refine ⟨k0, ?_⟩
  simp only [exec]
  rw [hc]
  cases d <;> exact h0

/-- a block left by its own exit -/
theorem Run.block_exit {id : Nat} {c : Code} (h : Run C T f m c fr H ⟨.exit id, fr', H'⟩) : Run C T f m (.block id c) fr H ⟨.normal, fr', H'⟩ := by
  obtain ⟨k0, h0⟩ := h
  refine ⟨k0, ?_⟩
  simp only [exec]
  rw [h0]
  simp

/-- a block left otherwise -/
theorem Run.block {id : Nat} {c : Code} (h : Run C T f m c fr H out) (hne : out.ex ≠ .exit id) : Run C T f m (.block id c) fr H out := by
  obtain ⟨k0, h0⟩ := h
  refine ⟨k0, ?_⟩
  simp only [exec]
  rw [h0]
  obtain ⟨ex, fr', H'⟩ := out
  cases ex with
  | normal => rfl
  | exit id' =>
    have : id' ≠ id := fun e => hne (by rw [e])
    simp [this]
  | ret => rfl

theorem Run.loop_step {c : Code} (h : Run C T f m c fr H ⟨.normal, fr', H'⟩) (h' : Run C T f m (.loop c) fr' H' out) : Run C T f m (.loop c) fr H out := by
  obtain ⟨k0, h0⟩ := h
  obtain ⟨k1, h1⟩ := h'
  refine ⟨max k0 k1 + 1, ?_⟩
  simp only [exec] at h1 ⊢
  rw [loopN, exec_mono (show k0 ≤ max k0 k1 + 1 by omega) c _ _ _ h0]
  exact loopN_mono (exec_mono (show k1 ≤ max k0 k1 + 1 by omega) c) (by omega) h1

theorem Run.loop_out {c : Code} (h : Run C T f m c fr H out) (hne : out.ex ≠ .normal) : Run C T f m (.loop c) fr H out := by
  obtain ⟨k0, h0⟩ := h
  refine ⟨k0 + 1, ?_⟩
  simp only [exec]
  rw [loopN, exec_mono (show k0 ≤ k0 + 1 by omega) c _ _ _ h0]
  obtain ⟨ex, fr', H'⟩ := out
  cases ex with
  | normal => exact absurd rfl hne
  | exit id => rfl
  | ret => rfl

/-- a loop by its states -/
theorem Run.loop_rule {c : Code} {σ : Type} (I : σ → Prop) (fr : σ → Frame) (H : σ → Heap) (out : σ → Out) (μ : σ → Nat)
    (step : ∀ s, I s → (∃ s', I s' ∧ Run C T f m c (fr s) (H s) ⟨.normal, fr s', H s'⟩ ∧ out s' = out s ∧ μ s' < μ s) ∨ (Run C T f m c (fr s) (H s) (out s) ∧ (out s).ex ≠ .normal)) (s : σ) (hs : I s) :
    Run C T f m (.loop c) (fr s) (H s) (out s) := by
  generalize hn : μ s = n
  induction n using Nat.strongRecOn generalizing s with
  | _ n ih =>
    rcases step s hs with ⟨s', h0, h1, h2, h3⟩ | ⟨h1, h2⟩
    · rw [← h2]
      exact Run.loop_step h1 (ih (μ s') (by omega) s' h0 rfl)
    · exact Run.loop_out h1 h2

/-- a call, its body told -/
theorem Ev1.of {T : Cf} (hT : Below C T) {f : Nat} {args : List AV} {H : Heap} {r : AV × Heap} {fn : Func} {c : Code} {as : List AV} {lents : List Lent} {out : Out} {l : List AV}
    (hF : C.P.funcs[f]? = some fn) (hb : fn.body = some c) (hl : lendArgs C f H 0 args = some (as, lents))
    (hc : ((lents.all fun x => disjoint x.objs (reach H reachFuel (idsL as) [])) && decide (as.length + 1 < gtag)) = true)
    (he : Run C T f ((reach H reachFuel (idsL as) []).length) c (numbered 0 (coerce C (renL (intoN H (reach H reachFuel (idsL as) [])) (fun t => t) as) (paramsOf C f)))
      ((reach H reachFuel (idsL as) []).map fun o => (obAt H o).map (renObj (intoN H (reach H reachFuel (idsL as) [])) (fun _ => as.length + 1) 0)) out)
    (hex : out.ex = .normal ∨ out.ex = .ret) (hr : resultsV C out.fr out.H fn.results.toList = some l)
    (hw : wrap H (reach H reachFuel (idsL as) []) (lents ++ [⟨[], tagsObjs ((reach H reachFuel (idsL as) []).map (obAt H))⟩]) (resultV l) out.H = some r) : Ev1 C f args H r := by
  obtain ⟨k, hk⟩ := he
  refine enter_ev hT (k := k) ?_
  unfold enterV
  rw [hl]
  simp only
  rw [if_pos hc]
  have : runBody C T k f (coerce C (renL (intoN H (reach H reachFuel (idsL as) [])) (fun t => t) as) (paramsOf C f))
      ((reach H reachFuel (idsL as) []).map fun o => (obAt H o).map (renObj (intoN H (reach H reachFuel (idsL as) [])) (fun _ => as.length + 1) 0)) = some (resultV l, out.H) := by
    unfold runBody
    rw [hF]
    simp only
    rw [hb]
    simp only [List.length_map]
    rw [hk]
    obtain ⟨ex, fr', H'⟩ := out
    simp only at hex hr ⊢
    rcases hex with rfl | rfl <;> simp [hr]
  rw [this]
  exact hw

theorem lend1_free {H : Heap} {t : Nat} {a : AV} (hi : ids a = []) : lend1 H t a = lend1 [] t a ∧ ∀ r, lend1 H t a = some r → r.2.objs = [] ∧ ids r.1 = [] := by
  cases a
  case sl o off len g => simp [ids] at hi
  case ro c p t' =>
    refine ⟨rfl, fun r h => ?_⟩
    simp only [lend1, Option.some.injEq] at h
    subst h
    exact ⟨rfl, rfl⟩
  case rptr p i f t' =>
    refine ⟨rfl, fun r h => ?_⟩
    simp only [lend1, Option.some.injEq] at h
    subst h
    exact ⟨rfl, rfl⟩
  all_goals
    refine ⟨rfl, fun r h => ?_⟩
    simp only [lend1] at h
    split at h
    · simp only [Option.some.injEq] at h
      subst h
      exact ⟨rfl, hi⟩
    · cases h

theorem lendL_free {H : Heap} {t : Nat} : ∀ {l : List AV}, idsL l = [] → lendL H t l = lendL [] t l ∧ ∀ r, lendL H t l = some r → r.2.objs = [] ∧ idsL r.1 = []
  | [], _ => ⟨rfl, fun r h => by simp only [lendL, Option.some.injEq] at h; subst h; exact ⟨rfl, rfl⟩⟩
  | a :: l, hi => by
    simp only [idsL, List.append_eq_nil_iff] at hi
    obtain ⟨h1, h2⟩ := lend1_free (H := H) (t := t) hi.1
    obtain ⟨h3, h4⟩ := lendL_free (H := H) (t := t) hi.2
    refine ⟨by simp only [lendL, h1, h3], fun r h => ?_⟩
    simp only [lendL] at h
    split at h
    · rename_i a' x r' y e1 e2
      simp only [Option.some.injEq] at h
      subst h
      obtain ⟨q1, q2⟩ := h2 _ e1
      obtain ⟨q3, q4⟩ := h4 _ e2
      exact ⟨by simp only at q1 q3 ⊢; rw [q1, q3]; rfl, by simp only [idsL] at q2 q4 ⊢; rw [q2, q4]; rfl⟩
    · cases h

theorem lendV_free {H : Heap} {t : Nat} {a : AV} (hi : ids a = []) : lendV H t a = lendV [] t a ∧ ∀ r, lendV H t a = some r → r.2.objs = [] ∧ ids r.1 = [] := by
  unfold lendV
  split
  · rename_i l
    obtain ⟨h1, h2⟩ := lendL_free (H := H) (t := t) (l := l) (by simpa [ids] using hi)
    refine ⟨by rw [h1], fun r h => ?_⟩
    cases hl : lendL H t l with
    | none => rw [hl] at h; cases h
    | some z =>
      rw [hl] at h
      simp only [Option.map_some, Option.some.injEq] at h
      subst h
      obtain ⟨q1, q2⟩ := h2 _ hl
      exact ⟨q1, by simpa [ids] using q2⟩
  · rename_i f l
    obtain ⟨h1, h2⟩ := lendL_free (H := H) (t := t) (l := l) (by simpa [ids] using hi)
    refine ⟨by rw [h1], fun r h => ?_⟩
    cases hl : lendL H t l with
    | none => rw [hl] at h; cases h
    | some z =>
      rw [hl] at h
      simp only [Option.map_some, Option.some.injEq] at h
      subst h
      obtain ⟨q1, q2⟩ := h2 _ hl
      exact ⟨q1, by simpa [ids] using q2⟩
  · exact lend1_free hi

theorem lendArgs_free {f : Nat} {H : Heap} : ∀ {args : List AV} {i : Nat}, idsL args = [] → lendArgs C f H i args = lendArgs C f [] i args ∧ ∀ r, lendArgs C f H i args = some r → (∀ x ∈ r.2, x.objs = []) ∧ idsL r.1 = []
  | [], i, _ => ⟨rfl, fun r h => by simp only [lendArgs, Option.some.injEq] at h; subst h; simp [idsL]⟩
  | a :: l, i, hi => by
    simp only [idsL, List.append_eq_nil_iff] at hi
    obtain ⟨h1, h2⟩ := lendV_free (H := H) (t := i + 1) hi.1
    obtain ⟨h3, h4⟩ := lendArgs_free (f := f) (H := H) (i := i + 1) hi.2
    have e : ∀ H : Heap, lendArgs C f H i (a :: l) = match lendV H (i + 1) a, lendArgs C f H (i + 1) l with
        | some (a', x), some (r', y) => some (a' :: r', x :: y)
        | _, _ => none := by
      intro H
      clear h1 h2 h3 h4
      cases a
      case sl o off len g => simp [ids] at hi
      all_goals
        simp only [lendArgs]
        generalize lendV H (i + 1) _ = x
        generalize lendArgs C f H (i + 1) l = y
        cases C.rw f i <;> rcases x with _ | ⟨_, _⟩ <;> rcases y with _ | ⟨_, _⟩ <;> rfl
    rw [e, e, h1, h3]
    refine ⟨rfl, fun r h => ?_⟩
    rw [← h1, ← h3] at h
    split at h
    · rename_i a' x r' y e1 e2
      simp only [Option.some.injEq] at h
      subst h
      obtain ⟨q1, q2⟩ := h2 _ e1
      obtain ⟨q3, q4⟩ := h4 _ e2
      refine ⟨fun z hz => ?_, by simp only [idsL] at q2 q4 ⊢; rw [q2, q4]; rfl⟩
      rcases List.mem_cons.1 hz with rfl | hz
      · exact q1
      · exact q3 z hz
    · cases h

theorem reach_nil (H : Heap) (acc : List Nat) : ∀ n, reach H n [] acc = acc
  | 0 => rfl
  | _ + 1 => rfl

/-- names moved on by n -/
def shiftN (n : Nat) (o g : Nat) : Option (Nat × Nat) := some (o + n, g)
def shiftV (n : Nat) (v : AV) : AV := ren (shiftN n) (fun t => t) v
def shiftH (n : Nat) (N : Heap) : Heap := N.map fun x => x.map fun ob => renObj (shiftN n) (fun t => t) ob.g ob

mutual
theorem ren_shift {ρ ρ' : Nat → Nat → Option (Nat × Nat)} {τ : Nat → Nat} {n : Nat} (h : ∀ o g, ρ' o g = (ρ o g).map fun x => (x.1 + n, x.2)) : (v : AV) → ren ρ' τ v = shiftV n (ren ρ τ v)
  | .ptr o i f g => by
    simp only [ren, h]
    rcases ρ o g with _ | ⟨a, b⟩ <;> simp [shiftV, ren, shiftN]
  | .sl o off len g => by
    simp only [ren, h]
    rcases ρ o g with _ | ⟨a, b⟩ <;> simp [shiftV, ren, shiftN]
  | .map o g => by
    simp only [ren, h]
    rcases ρ o g with _ | ⟨a, b⟩ <;> simp [shiftV, ren, shiftN]
  | .ro c p t => by simp [ren, shiftV]
  | .rptr p i f t => by simp [ren, shiftV]
  | .agg p => by simp only [ren, shiftV, ren_shift h p]
  | .tup l => by simp only [ren, shiftV, renL_shift h l]
  | .fn f l => by simp only [ren, shiftV, renL_shift h l]
  | .pc l => by simp only [ren, shiftV, renL_shift h l]
  | .pr e l => by simp only [ren, shiftV, renL_shift h l]
  | .pm l => by simp only [ren, shiftV, renL_shift h l]
  | .top => by simp [ren, shiftV]
  | .bool _ => by simp [ren, shiftV]
  | .int _ _ => by simp [ren, shiftV]
  | .str _ => by simp [ren, shiftV]
  | .nilptr => by simp [ren, shiftV]
  | .nilfn => by simp [ren, shiftV]
  | .nilmap => by simp [ren, shiftV]
  | .pn => by simp [ren, shiftV]
  | .pb _ => by simp [ren, shiftV]
  | .pi _ _ => by simp [ren, shiftV]
theorem renL_shift {ρ ρ' : Nat → Nat → Option (Nat × Nat)} {τ : Nat → Nat} {n : Nat} (h : ∀ o g, ρ' o g = (ρ o g).map fun x => (x.1 + n, x.2)) : (l : List AV) → renL ρ' τ l = renL (shiftN n) (fun t => t) (renL ρ τ l)
  | [] => rfl
  | a :: r => by
    have h1 := ren_shift (τ := τ) h a
    simp only [shiftV] at h1
    simp only [renL, h1, renL_shift h r]
end

theorem idxOf_shift : ∀ (l : List Nat) (o i n : Nat), idxOf l o (i + n) = (idxOf l o i).map (· + n)
  | [], _, _, _ => rfl
  | a :: r, o, i, n => by
    simp only [idxOf]
    split
    · rfl
    · rw [show i + n + 1 = (i + 1) + n by omega, idxOf_shift r o (i + 1) n]

/-- a call that is handed no object does the same in any heap -/
theorem Ev1.frame {f : Nat} {args : List AV} {v : AV} {N : Heap} (h : Ev1 C f args [] (v, N)) (hi : idsL args = []) (H : Heap) : Ev1 C f args H (shiftV H.length v, H ++ shiftH H.length N) := by
  obtain ⟨n0, h0⟩ := h
  refine ⟨n0 + 1, fun n hn => ?_⟩
  obtain ⟨n, rfl⟩ : ∃ i, n = i + 1 := ⟨n - 1, by omega⟩
  have h1 := h0 (n + 1) (by omega)
  simp only [callF, enterV] at h1 ⊢
  obtain ⟨e1, e2⟩ := lendArgs_free (C := C) (f := f) (H := H) (i := 0) hi
  rw [e1]
  split at h1
  · cases h1
  · rename_i as lents hl
    obtain ⟨e3, e4⟩ := e2 _ (e1.trans hl)
    simp only at e3 e4 h1 ⊢
    rw [e4] at h1 ⊢
    simp only [reach_nil, List.map_nil, List.length_nil] at h1 ⊢
    have hren : ∀ (H H' : Heap) (l : List AV), renL (intoN H []) (fun t => t) l = renL (intoN H' []) (fun t => t) l := by
      intro H H' l
      have : intoN H [] = intoN H' [] := by
        funext o g
        unfold intoN
        split <;> split <;> simp [idxOf]
      rw [this]
    rw [hren H []]
    split at h1
    · rename_i hc
      rw [if_pos hc]
      split at h1
      · cases h1
      · rename_i u H1 hb
        unfold wrap at h1 ⊢
        simp only [List.length_nil, List.range_zero, List.nil_append, List.map_nil, tagsObjs, List.append_nil] at h1 ⊢
        split at h1
        · rename_i hu
          rw [if_pos hu]
          generalize (List.filter (fun o => decide (0 ≤ o)) (reach H1 reachFuel (ids u) [])) = new at h1 ⊢
          have hrho : ∀ o g, backN H [] new H1 o g = (backN [] [] new H1 o g).map fun x => (x.1 + H.length, x.2) := by
            intro o g
            unfold backN
            split
            · have := idxOf_shift new o 0 H.length
              rw [Nat.zero_add] at this
              simp [this, Option.map_map, Function.comp_def]
            · rfl
          have hgone : ∀ t, goneOf (lents ++ [⟨[], []⟩]) t = [] := by
            intro t
            unfold goneOf
            split
            · rfl
            · split
              · rename_i x hx
                rcases List.mem_append.1 (List.mem_of_getElem? hx) with hx | hx
                · exact e3 x hx
                · simp only [List.mem_singleton] at hx
                  rw [hx]
              · rfl
          have hfl : ∀ l : List Nat, l.flatMap (goneOf (lents ++ [⟨[], []⟩])) = [] := fun l => by simp [hgone]
          rw [hfl] at h1 ⊢
          simp only [strike, putBack, List.nil_append, Option.some.injEq, Prod.mk.injEq] at h1 ⊢
          obtain ⟨h2, h3⟩ := h1
          refine ⟨by rw [← h2]; exact ren_shift hrho u, ?_⟩
          rw [← h3]
          congr 1
          simp only [shiftH, List.map_map]
          refine List.map_congr_left fun o _ => ?_
          simp only [Function.comp]
          cases obAt H1 o with
          | none => rfl
          | some ob =>
            simp only [Option.map_some, renObj, Option.some.injEq]
            have := ren_shift (τ := backT (lents ++ [⟨[], []⟩])) hrho ob.p
            simp only [shiftV] at this
            rw [this]
        · cases h1
    · cases h1

end

end Go.AM

/- Tables of calls that were run once. -/
namespace Go.AM

mutual
def eqAV : AV → AV → Bool
  | .top, .top => true
  | .bool a, .bool b => a == b
  | .int k a, .int k' b => decide (k = k') && decide (a = b)
  | .str a, .str b => decide (a = b)
  | .nilptr, .nilptr => true
  | .nilfn, .nilfn => true
  | .nilmap, .nilmap => true
  | .ro c p t, .ro c' p' t' => decide (c = c') && decide (t = t') && eqAV p p'
  | .agg p, .agg q => eqAV p q
  | .sl o a b g, .sl o' a' b' g' => decide (o = o') && decide (a = a') && decide (b = b') && decide (g = g')
  | .ptr o a b g, .ptr o' a' b' g' => decide (o = o') && decide (a = a') && decide (b = b') && decide (g = g')
  | .tup l, .tup m => eqL l m
  | .pn, .pn => true
  | .pb a, .pb b => decide (a = b)
  | .pi k a, .pi k' b => decide (k = k') && decide (a = b)
  | .pc l, .pc m => eqL l m
  | .pr e l, .pr e' m => decide (e = e') && eqL l m
  | _, _ => false
def eqL : List AV → List AV → Bool
  | [], [] => true
  | a :: l, b :: m => eqAV a b && eqL l m
  | _, _ => false
end

mutual
theorem eqAV_eq : (a b : AV) → eqAV a b = true → a = b
  | .top, b, h => by cases b <;> simp [eqAV] at h; rfl
  | .bool x, b, h => by cases b <;> simp [eqAV] at h; rw [h]
  | .int k x, b, h => by cases b <;> simp [eqAV] at h; rw [h.1, h.2]
  | .str x, b, h => by cases b <;> simp [eqAV] at h; rw [h]
  | .nilptr, b, h => by cases b <;> simp [eqAV] at h; rfl
  | .nilfn, b, h => by cases b <;> simp [eqAV] at h; rfl
  | .nilmap, b, h => by cases b <;> simp [eqAV] at h; rfl
  | .ro c p t, b, h => by
    cases b <;> simp [eqAV] at h
    rw [h.1.1, h.1.2, eqAV_eq p _ h.2]
  | .agg p, b, h => by
    cases b <;> simp [eqAV] at h
    rw [eqAV_eq p _ h]
  | .tup l, b, h => by
    cases b <;> simp [eqAV] at h
    rw [eqL_eq l _ h]
  | .pn, b, h => by cases b <;> simp [eqAV] at h; rfl
  | .pb x, b, h => by cases b <;> simp [eqAV] at h; rw [h]
  | .pi k x, b, h => by cases b <;> simp [eqAV] at h; rw [h.1, h.2]
  | .pc l, b, h => by
    cases b <;> simp [eqAV] at h
    rw [eqL_eq l _ h]
  | .pr e l, b, h => by
    cases b <;> simp [eqAV] at h
    rw [h.1, eqL_eq l _ h.2]
  | .ptr o a c g, b, h => by cases b <;> simp [eqAV] at h; rw [h.1.1.1, h.1.1.2, h.1.2, h.2]
  | .rptr .., b, h => by cases b <;> simp [eqAV] at h
  | .sl o a c g, b, h => by cases b <;> simp [eqAV] at h; rw [h.1.1.1, h.1.1.2, h.1.2, h.2]
  | .fn .., b, h => by cases b <;> simp [eqAV] at h
  | .map .., b, h => by cases b <;> simp [eqAV] at h
  | .pm .., b, h => by cases b <;> simp [eqAV] at h
theorem eqL_eq : (l m : List AV) → eqL l m = true → l = m
  | [], m, h => by cases m <;> simp [eqL] at h; rfl
  | a :: l, m, h => by
    cases m <;> simp [eqL] at h
    rw [eqAV_eq a _ h.1, eqL_eq l _ h.2]
end

def eqOb : Option Obj → Option Obj → Bool
  | none, none => true
  | some a, some b => eqAV a.p b.p && decide (a.g = b.g) && decide (a.cap = b.cap) && decide (a.z = b.z) && decide (a.row = b.row) && decide (a.ids = b.ids) && decide (a.tg = b.tg)
  | _, _ => false

theorem eqOb_eq : ∀ {a b : Option Obj}, eqOb a b = true → a = b
  | none, none, _ => rfl
  | none, some _, h => by simp [eqOb] at h
  | some _, none, h => by simp [eqOb] at h
  | some ⟨p, g, c, z, r, i, t⟩, some ⟨p', g', c', z', r', i', t'⟩, h => by
    simp [eqOb] at h
    obtain ⟨⟨⟨⟨⟨⟨h1, h2⟩, h3⟩, h4⟩, h5⟩, h6⟩, h7⟩ := h
    rw [eqAV_eq _ _ h1, h2, h3, h4, h5, h6, h7]

def eqH : Heap → Heap → Bool
  | [], [] => true
  | a :: l, b :: m => eqOb a b && eqH l m
  | _, _ => false

theorem eqH_eq : ∀ {a b : Heap}, eqH a b = true → a = b
  | [], [], _ => rfl
  | [], _ :: _, h => by simp [eqH] at h
  | _ :: _, [], h => by simp [eqH] at h
  | a :: l, b :: m, h => by
    simp [eqH] at h
    rw [eqOb_eq h.1, eqH_eq h.2]

/-- a call and what it tells, in an empty heap -/
structure Row1 where
  f : Nat
  args : List AV
  res : AV
  N : Heap

def tabF (L : List Row1) : Cf := fun f args H =>
  match L.find? (fun e => e.f == f && eqL e.args args) with
  | some e => some (shiftV H.length e.res, H ++ shiftH H.length e.N)
  | none => none

def RowsOk (C : Ctx) (L : List Row1) : Prop := ∀ e ∈ L, Ev1 C e.f e.args [] (e.res, e.N) ∧ idsL e.args = []

theorem tabF_below {C : Ctx} {L : List Row1} (h : RowsOk C L) : Below C (tabF L) := by
  intro f args H r hr
  unfold tabF at hr
  split at hr
  · rename_i e he
    simp only [Option.some.injEq] at hr
    subst hr
    obtain ⟨h1, h2⟩ := h e (List.mem_of_find?_eq_some he)
    have h3 := List.find?_some he
    simp only [Bool.and_eq_true, beq_iff_eq] at h3
    rw [← h3.1, ← eqL_eq _ _ h3.2]
    exact Ev1.frame h1 h2 H
  · cases hr

theorem RowsOk.nil {C : Ctx} : RowsOk C [] := by intro e h; simp at h

/-- one call more, run over the table and the rest of the known ones -/
def rowRun (C : Ctx) (T : Cf) (n : Nat) (e : Row1) : Bool :=
  (idsL e.args).isEmpty && (match enterV C (runBody C (callT C T n) n) e.f e.args [] with
    | some (v, N) => eqAV v e.res && eqH N e.N
    | none => false)

theorem RowsOk.cons {C : Ctx} {T : Cf} (hT : Below C T) {L : List Row1} (hL : RowsOk C L) {n : Nat} {e : Row1} (h : rowRun C T n e = true) : RowsOk C (e :: L) := by
  intro x hx
  rcases List.mem_cons.1 hx with rfl | hx
  · unfold rowRun at h
    simp only [Bool.and_eq_true, List.isEmpty_iff] at h
    refine ⟨?_, h.1⟩
    have h2 := h.2
    split at h2
    · rename_i v N hv
      simp only [Bool.and_eq_true] at h2
      rw [← eqAV_eq _ _ h2.1, ← eqH_eq h2.2]
      exact enter_ev (callT_below hT n) hv
    · cases h2
  · exact hL x hx

/-- either table -/
def orT (T T' : Cf) : Cf := fun f args H => match T f args H with
  | some r => some r
  | none => T' f args H

theorem orT_below {C : Ctx} {T T' : Cf} (h : Below C T) (h' : Below C T') : Below C (orT T T') := by
  intro f args H r hr
  unfold orT at hr
  split at hr
  · rename_i r' e
    rw [← Option.some.inj hr]
    exact h _ _ _ _ e
  · exact h' _ _ _ _ hr

/-- a closed statement that tells true over a table -/
theorem true_of_tab {C : Ctx} {T : Cf} (hT : Below C T) {n f : Nat} (h : isTrue (callT C T n f [] []) = true) : ∃ n H', callF C n f [] [] = some (.bool true, H') := by
  obtain ⟨H', h1⟩ := isTrue_some h
  obtain ⟨n0, h2⟩ := callT_below hT n _ _ _ _ h1
  exact ⟨n0, H', h2 n0 (Nat.le_refl _)⟩

end Go.AM

/- Wrapped numbers. -/
namespace Go.AM

theorem wrap_u {k : IntKind} (hk : k.signed = false) {n : Int} (h0 : 0 ≤ n) (h1 : n < 2 ^ k.bits) : k.wrap n = n := by
  simp only [IntKind.wrap, hk, Bool.false_and, Bool.false_eq_true, if_false]
  exact Int.emod_eq_of_lt h0 h1

theorem wrap_u8 {n : Int} (h0 : 0 ≤ n) (h1 : n < 256) : IntKind.u8.wrap n = n := wrap_u rfl h0 (by exact h1)
theorem wrap_u16 {n : Int} (h0 : 0 ≤ n) (h1 : n < 65536) : IntKind.u16.wrap n = n := wrap_u rfl h0 (by exact h1)
theorem wrap_u32 {n : Int} (h0 : 0 ≤ n) (h1 : n < 4294967296) : IntKind.u32.wrap n = n := wrap_u rfl h0 (by exact h1)
theorem wrap_u64 {n : Int} (h0 : 0 ≤ n) (h1 : n < 18446744073709551616) : IntKind.u64.wrap n = n := wrap_u rfl h0 (by exact h1)

theorem wrap_i64 {n : Int} (h0 : -9223372036854775808 ≤ n) (h1 : n < 9223372036854775808) : IntKind.i64.wrap n = n := by
  have e1 : IntKind.i64.bits = 64 := rfl
  have e2 : IntKind.i64.signed = true := rfl
  simp only [IntKind.wrap, e1, e2, Bool.true_and, decide_eq_true_eq]
  have p64 : (2 : Int) ^ 64 = 18446744073709551616 := rfl
  have p63 : (2 : Int) ^ (64 - 1) = 9223372036854775808 := rfl
  rw [p64, p63]
  by_cases hn : 0 ≤ n
  · rw [Int.emod_eq_of_lt hn (by omega), if_neg (by omega)]
  · have : n % 18446744073709551616 = n + 18446744073709551616 := by omega
    rw [this, if_pos (by omega)]
    omega

end Go.AM

/- Arguments of laws: what comes in, as the abstract machine's values. -/
namespace Go.AM
open Go.ChangeShapes Go.WideShapes Go.ChangeAt Go.RowKit

section
variable {H : Type} {enc : TypeId × Value → H} {P : Program} {W : World}

theorem start_nt {b t : Nat} (hb : b < W.heap.size) (ht : t ≠ 0) : NT (start W) (T0 W.heap.size) t b := ⟨.inr ht, start_own W b, hb⟩

theorem u8_wf {n : Int} (h : (Lit.int .u8 n).wf = true) : 0 ≤ n ∧ n < 256 := by
  have : IntKind.u8.min ≤ n ∧ n ≤ IntKind.u8.max := by simpa [Lit.wf] using h
  have e1 : IntKind.u8.min = 0 := rfl
  have e2 : IntKind.u8.max = 255 := rfl
  omega

theorem i64_wf {n : Int} (h : (Lit.int .i64 n).wf = true) : -9223372036854775808 ≤ n ∧ n ≤ 9223372036854775807 := by
  have : IntKind.i64.min ≤ n ∧ n ≤ IntKind.i64.max := by simpa [Lit.wf] using h
  have e1 : IntKind.i64.min = -9223372036854775808 := rfl
  have e2 : IntKind.i64.max = 9223372036854775807 := rfl
  omega

theorem ro_rel {c : Nat} {l : List UInt8} {ad : Option Addr} {cap : Nat} (hs : RoShape c l.length ad cap)
    (hc : ∀ a, ad = some a → l.length ≠ 0 → a.spot = none ∧ a.block < W.heap.size ∧ ∀ j b, l[j]? = some b → W.cell? ⟨a.block, a.off + j, none⟩ = some (.int .u8 (b.toNat : Int))) :
    VRel (start W) (T0 W.heap.size) (.ro c (.pb l) 1) (.slice ad l.length cap) := by
  simp only [VRel, V1Rel, SRel, RV]
  refine ⟨ad, cap, rfl, hs, fun a ha hn => ?_⟩
  obtain ⟨h1, h2, h3⟩ := hc a ha hn
  exact ⟨h1, start_nt h2 (by omega), by simp only [RP]; exact h3⟩

/-- a slice of bytes -/
theorem arg_bytes {base : Nat} {t e : TypeId} {v : Value} {d : DataW H} {ps : List MemPlace} (ht : P.underlying t = some (.slice e)) (he : P.underlying e = some (.int .u8)) (hc : P.cellsOf e = 1)
    (hval : Value.okWide P W .any base t v) (hd : DataW.Trod enc P W 0 (fun _ => true) true t v d ps) :
    ∃ (c : Nat) (l : List UInt8), l.length ≤ maxLen ∧ VRel (start W) (T0 W.heap.size) (.ro c (.pb l) 1) v := by
  obtain ⟨a0, len0, cap0, rfl⟩ := okWide_slice ht hval
  obtain ⟨fuel, hf⟩ := hd
  rcases Go.ChangeShapes.open_ints ht he hc hf with ⟨hcs, _⟩ | ⟨a, len, cap, zs, hcs, _, hlc, hcm, hzl, _, hcell, hwf⟩
  · simp [Value.cells] at hcs
    obtain ⟨rfl, rfl, rfl⟩ := hcs
    exact ⟨0, [], by simp, ro_rel (l := []) ⟨Nat.le_refl _, fun _ => ⟨rfl, rfl⟩, fun h => absurd rfl h, fun h => by simp at h⟩ (fun a ha => by cases ha)⟩
  · simp [Value.cells] at hcs
    obtain ⟨rfl, rfl, rfl⟩ := hcs
    simp only [if_true] at hzl
    have hlen : ((zs.take len0).map fun n => UInt8.ofNat n.toNat).length = len0 := by simp; omega
    refine ⟨2, (zs.take len0).map fun n => UInt8.ofNat n.toNat, by rw [hlen]; omega, ?_⟩
    have := ro_rel (W := W) (c := 2) (l := (zs.take len0).map fun n => UInt8.ofNat n.toNat) (ad := some a) (cap := cap0) ⟨by rw [hlen]; exact hlc, fun h => by simp at h, fun _ => rfl, fun h => by simp at h⟩ (by
      intro a' ha' hn
      simp only [Option.some.injEq] at ha'
      subst ha'
      rw [hlen] at hn
      have h0 := hcell 0 (by omega)
      have hsp : a.spot = none := by
        have := World.cell?_spot h0
        simpa [Addr.add] using this
      obtain ⟨b, off, spot⟩ := a
      simp only at hsp
      subst hsp
      refine ⟨rfl, ?_, fun j x hx => ?_⟩
      · rw [add_plain] at h0
        exact block_lt_of_cell h0
      · rw [List.getElem?_map] at hx
        cases hz : (zs.take len0)[j]? with
        | none => rw [hz] at hx; cases hx
        | some z =>
          rw [hz] at hx
          simp only [Option.map_some, Option.some.injEq] at hx
          have hjl : j < len0 := by
            have := (List.getElem?_eq_some_iff.1 hz).1
            simp at this
            omega
          rw [List.getElem?_take_of_lt hjl] at hz
          have hzmem := List.mem_of_getElem? hz
          obtain ⟨q1, q2⟩ := u8_wf (hwf z hzmem)
          have := hcell j (by omega)
          rw [add_plain] at this
          rw [this, List.getD_eq_getElem?_getD, hz, Option.getD_some, ← hx]
          have : ((UInt8.ofNat z.toNat).toNat : Int) = z := by
            rw [UInt8.toNat_ofNat', Nat.mod_eq_of_lt (by simp; omega)]
            omega
          rw [this])
    rw [hlen] at this
    exact this

/-- a number -/
theorem arg_int {base : Nat} {t : TypeId} {k : IntKind} {v : Value} {d : DataW H} {ps : List MemPlace} (ht : P.underlying t = some (.int k)) (hval : Value.okWide P W .any base t v) (hd : DataW.Trod enc P W 0 (fun _ => true) true t v d ps) :
    ∃ n, (Lit.int k n).wf = true ∧ VRel (start W) (T0 W.heap.size) (.int k n) v := by
  obtain ⟨n, rfl, _, _, h⟩ := open_int ht hval hd
  exact ⟨n, h, by simp [VRel, V1Rel, SRel, RV]⟩

end

end Go.AM
