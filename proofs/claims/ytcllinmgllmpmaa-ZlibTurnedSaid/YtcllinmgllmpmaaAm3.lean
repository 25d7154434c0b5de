/- The abstract machine, part 3: a deterministic evaluator for the program's code and the proof that what it tells is so. Conditions: none beyond the theorems' own. -/
import Derived.Attr
import Derived.Test.YtcllinmgllmpmaaAm2
set_option linter.unusedSimpArgs false
set_option linter.unusedVariables false
set_option maxRecDepth 100000
set_option maxHeartbeats 8000000
namespace Go.AM
section
variable {C:Ctx}
def Ev1 (C:Ctx) (f:Nat) (args:List AV) (H:Heap) (r:AV × Heap):Prop:=∃ n0,∀ n,n0≤n→kL C n f args H = some r
def Below (C:Ctx) (T:Cf):Prop:=∀ f args H r,T f args H = some r→Ev1 C f args H r
theorem XW {T:Cf} (hT:Below C T) {fr:Frame} {H:Heap} {o:Oper} {r:AV × Heap} (h:step C T fr H o = some r):∃ n0,∀ n,n0≤n→step C (kL C n) fr H o = some r:=by
 obtain ⟨dst,op,type,pos,after,guard⟩:=o
 cases op <;> try exact ⟨0,fun _ _=>h⟩
 case makeFunc fn first caps=>cases fn <;> exact ⟨0,fun _ _=>h⟩
 case call c =>
  simp only [step,tH] at h ⊢
  cases hc:c.callee with
  | builtin b=>rw [hc] at h;exact ⟨0,fun _ _=>h⟩
  | value x =>
   rw [hc] at h
   simp only at h ⊢
   split at h
   ·rename_i f caps he
    split at h
    ·obtain ⟨n0,hn⟩:=hT _ _ _ _ h
     refine ⟨n0,fun n hl=>?_⟩
     rename_i hb
     rw [if_pos hb]
     exact hn n hl
    ·cases h
   ·cases h
  | invoke r n=>rw [hc] at h;cases h
theorem QN {T:Cf} (hT:Below C T) {nt:Nat} {ops:Array Oper} {o:Oper} {fr:Frame} {H:Heap} {r:AV × Heap} (h:out1 C T nt ops o fr H = some r):∃ n0,∀ n,n0≤n→out1 C (kL C n) nt ops o fr H = some r:=by
 unfold out1 at h ⊢
 split at h
 ·rename_i hd
  simp only [hd,if_true]
  split at h
  ·exact XW hT h
  ·exact ⟨0,fun _ _=>h⟩
  ·cases h
 ·cases h
theorem Ih {T:Cf} (hT:Below C T) {nt:Nat} {ops:Array Oper}:∀ {l:List Oper} {fr:Frame} {H:Heap} {r:Frame × Heap},kW C T nt ops l fr H = some r→∃ n0,∀ n,n0≤n→kW C (kL C n) nt ops l fr H = some r
 | [],fr,H,r,h=>⟨0,fun _ _=>h⟩
 | o :: l,fr,H,r,h=>by
  rw [vW] at h
  split at h
  ·rename_i v H1 hv
   obtain ⟨n0,h0⟩:=QN hT hv
   obtain ⟨n1,h1⟩:=Ih hT h
   refine ⟨max n0 n1,fun n hn=>?_⟩
   rw [vW,h0 n (by omega)]
   exact h1 n (by omega)
  ·cases h
theorem QO {T:Cf} (hT:Below C T) {nt:Nat} {ops:Array Oper}:∀ {l:List Oper} {fr:Frame} {H:Heap} {r:Frame × Heap × List Mark},jS C T nt ops l fr H = some r→∃ n0,∀ n,n0≤n→jS C (kL C n) nt ops l fr H = some r
 | [],fr,H,r,h=>⟨0,fun _ _=>h⟩
 | o :: l,fr,H,r,h=>by
  simp only [jS] at h
  split at h
  ·rename_i v H1 hv
   split at h
   ·rename_i fr' H2 ms hr
    obtain ⟨n0,h0⟩:=QN hT hv
    obtain ⟨n1,h1⟩:=QO hT hr
    refine ⟨max n0 n1,fun n hn=>?_⟩
    simp only [jS]
    rw [h0 n (by omega)]
    simp only
    rw [h1 n (by omega)]
    exact h
   ·cases h
  ·cases h
theorem oO {T:Cf} (hT:Below C T) {f m k:Nat}:(c:Code)→∀ {fr:Frame} {H:Heap} {out:Out},exec C T f m k c fr H = some out→∃ n0,∀ n,n0≤n→∀ k',k≤k'→exec C (kL C n) f m k' c fr H = some out
 | .skip,fr,H,out,h=>⟨0,fun _ _ _ _=>h⟩
 | .region id ops draw,fr,H,out,h=>by
  simp only [exec] at h ⊢
  split at h
  ·rename_i hd
   simp only [hd,if_true]
   split at h
   ·rename_i fr' H' ms hr
    obtain ⟨n0,h0⟩:=QO hT hr
    refine ⟨n0,fun n hn k' _=>?_⟩
    rw [h0 n hn]
    exact h
   ·cases h
  ·rename_i hd
   simp only [hd,Bool.false_eq_true,if_false]
   split at h
   ·cases h
   ·rename_i hd2
    simp only [hd2,Bool.false_eq_true,if_false]
    split at h
    ·rename_i fr' H' hr
     obtain ⟨n0,h0⟩:=Ih hT hr
     refine ⟨n0,fun n hn k' _=>?_⟩
     rw [h0 n hn]
     exact h
    ·cases h
 | .seq a b,fr,H,out,h=>by
  simp only [exec] at h ⊢
  split at h
  ·rename_i fr' H' ha
   obtain ⟨n0,h0⟩:=oO hT a ha
   obtain ⟨n1,h1⟩:=oO hT b h
   refine ⟨max n0 n1,fun n hn k' hk=>?_⟩
   rw [h0 n (by omega) k' hk]
   exact h1 n (by omega) k' hk
  ·rename_i hne
   obtain ⟨n0,h0⟩:=oO hT a h
   refine ⟨n0,fun n hn k' hk=>?_⟩
   rw [h0 n hn k' hk]
   obtain ⟨ex,fr',H'⟩:=out
   cases ex with
   | normal=>exact absurd h (hne _ _)
   | exit id=>rfl
   | ret=>rfl
 | .cond c a b,fr,H,out,h=>by
  simp only [exec] at h ⊢
  split at h
  ·rename_i d hd
   cases d with
   | true=>exact oO hT a h
   | false=>exact oO hT b h
  ·cases h
 | .block id c,fr,H,out,h=>by
  simp only [exec] at h ⊢
  split at h
  ·rename_i id' fr' H' hc
   obtain ⟨n0,h0⟩:=oO hT c hc
   refine ⟨n0,fun n hn k' hk=>?_⟩
   rw [h0 n hn k' hk]
   exact h
  ·rename_i hne
   obtain ⟨n0,h0⟩:=oO hT c h
   refine ⟨n0,fun n hn k' hk=>?_⟩
   rw [h0 n hn k' hk]
   obtain ⟨ex,fr',H'⟩:=out
   cases ex with
   | normal=>rfl
   | exit id=>exact absurd h (hne _ _ _)
   | ret=>rfl
 | .loop c,fr,H,out,h=>by
  simp only [exec] at h ⊢
  have key:∀ j,∀ {fr:Frame} {H:Heap},oW (exec C T f m k c) j fr H = some out→∃ n0,∀ n,n0≤n→∀ k',k≤k'→∀ j',j≤j'→oW (exec C (kL C n) f m k' c) j' fr H = some out:=by
   intro j
   induction j with
   | zero=>intro fr H h;simp [oW] at h
   | succ j ih =>
    intro fr H h
    simp only [oW] at h
    split at h
    ·rename_i fr' H' hc
     obtain ⟨n0,h0⟩:=oO hT c hc
     obtain ⟨n1,h1⟩:=ih h
     refine ⟨max n0 n1,fun n hn k' hk j' hj=>?_⟩
     obtain ⟨j',rfl⟩:∃ i,j' = i + 1:=⟨j' - 1,by omega⟩
     simp only [oW]
     rw [h0 n (by omega) k' hk]
     exact h1 n (by omega) k' hk j' (by omega)
    ·rename_i hne
     obtain ⟨n0,h0⟩:=oO hT c h
     refine ⟨n0,fun n hn k' hk j' hj=>?_⟩
     obtain ⟨j',rfl⟩:∃ i,j' = i + 1:=⟨j' - 1,by omega⟩
     simp only [oW]
     rw [h0 n hn k' hk]
     obtain ⟨ex,fr',H'⟩:=out
     cases ex with
     | normal=>exact absurd h (hne _ _)
     | exit id=>rfl
     | ret=>rfl
  obtain ⟨n0,h0⟩:=key k h
  exact ⟨n0,fun n hn k' hk=>h0 n hn k' hk k' hk⟩
 | .exit id,fr,H,out,h=>⟨0,fun _ _ _ _=>h⟩
 | .ret,fr,H,out,h=>⟨0,fun _ _ _ _=>h⟩
 | .scope ..,fr,H,out,h=>by simp [exec] at h
 | .label ..,fr,H,out,h=>by simp [exec] at h
 | .goto ..,fr,H,out,h=>by simp [exec] at h
 | .refuse ..,fr,H,out,h=>by simp [exec] at h
 | .rangeFunc ..,fr,H,out,h=>by simp [exec] at h
theorem OZ {T:Cf} (hT:Below C T) {k f:Nat} {args:List AV} {H:Heap} {r:AV × Heap} (h:kS C T k f args H = some r):∃ n0,∀ n,n0≤n→kS C (kL C n) n f args H = some r:=by
 unfold kS at h ⊢
 cases hF:C.P.funcs[f]? with
 | none=>rw [hF] at h;cases h
 | some fn =>
  rw [hF] at h
  simp only at h ⊢
  cases hb:fn.body with
  | none=>rw [hb] at h;cases h
  | some c =>
   rw [hb] at h
   simp only at h ⊢
   cases he:exec C T f H.length k c (numbered 0 args) H with
   | none=>rw [he] at h;cases h
   | some out =>
    obtain ⟨n0,h0⟩:=oO hT c he
    refine ⟨max n0 k,fun n hn=>?_⟩
    rw [h0 n (by omega) n (by omega)]
    rw [he] at h
    exact h
theorem Fe {T:Cf} (hT:Below C T) {k f:Nat} {args:List AV} {H:Heap} {r:AV × Heap} (h:jI C (kS C T k) f args H = some r):Ev1 C f args H r:=by
 unfold jI at h
 split at h
 ·cases h
 ·rename_i as aK hl
  simp only at h
  split at h
  ·rename_i hc
   split at h
   ·cases h
   ·rename_i v H1 hb
    obtain ⟨n0,h0⟩:=OZ hT hb
    refine ⟨n0 + 1,fun n hn=>?_⟩
    obtain ⟨n,rfl⟩:∃ i,n = i + 1:=⟨n - 1,by omega⟩
    show jI C (kS C (kL C n) n) f args H = some r
    unfold jI
    rw [hl]
    simp only
    rw [if_pos hc,h0 n (by omega)]
    exact h
  ·cases h
theorem Below.none:Below C (fun _ _ _=>none):=by intro f args H r h;cases h
def QS (C:Ctx) (T:Cf):Nat→Cf
 | 0,f,args,H=>T f args H
 | n + 1,f,args,H=>match T f args H with
  | some r=>some r
  | none=>jI C (kS C (QS C T n) n) f args H
theorem Dq {T:Cf} (hT:Below C T):∀ n,Below C (QS C T n)
 | 0=>hT
 | n + 1=>by
  intro f args H r h
  simp only [QS] at h
  split at h
  ·rename_i r' hr
   rw [← Option.some.inj h]
   exact hT _ _ _ _ hr
  ·exact Fe (Dq hT n) h
theorem yZ {b b':Frame→Heap→Option Out} (hb:∀ fr H out,b fr H = some out→b' fr H = some out):∀ {j j':Nat} {fr:Frame} {H:Heap} {out:Out},j≤j'→oW b j fr H = some out→oW b' j' fr H = some out
 | 0,j',fr,H,out,_,h=>by simp [oW] at h
 | j + 1,j',fr,H,out,hj,h=>by
  obtain ⟨j',rfl⟩:∃ i,j' = i + 1:=⟨j' - 1,by omega⟩
  simp only [oW] at h ⊢
  split at h
  ·rename_i fr' H' hc
   rw [hb _ _ _ hc]
   exact yZ hb (by omega) h
  ·rename_i hne
   rw [hb _ _ _ h]
   obtain ⟨ex,fr',H'⟩:=out
   cases ex with
   | normal=>exact absurd h (hne _ _)
   | exit id=>rfl
   | ret=>rfl
theorem iJ {T:Cf} {f m k k':Nat} (hk:k≤k'):(c:Code)→∀ (fr:Frame) (H:Heap) (out:Out),exec C T f m k c fr H = some out→exec C T f m k' c fr H = some out
 | .skip,fr,H,out,h=>h
 | .region id ops draw,fr,H,out,h=>h
 | .seq a b,fr,H,out,h=>by
  simp only [exec] at h ⊢
  split at h
  ·rename_i fr' H' ha
   rw [iJ hk a _ _ _ ha]
   exact iJ hk b _ _ _ h
  ·rename_i hne
   rw [iJ hk a _ _ _ h]
   obtain ⟨ex,fr',H'⟩:=out
   cases ex with
   | normal=>exact absurd h (hne _ _)
   | exit id=>rfl
   | ret=>rfl
 | .cond c a b,fr,H,out,h=>by
  simp only [exec] at h ⊢
  split at h
  ·rename_i d hd
   cases d with
   | true=>exact iJ hk a _ _ _ h
   | false=>exact iJ hk b _ _ _ h
  ·cases h
 | .block id c,fr,H,out,h=>by
  simp only [exec] at h ⊢
  split at h
  ·rename_i id' fr' H' hc
   rw [iJ hk c _ _ _ hc]
   exact h
  ·rename_i hne
   rw [iJ hk c _ _ _ h]
   obtain ⟨ex,fr',H'⟩:=out
   cases ex with
   | normal=>rfl
   | exit id=>exact absurd h (hne _ _ _)
   | ret=>rfl
 | .loop c,fr,H,out,h=>by
  simp only [exec] at h ⊢
  exact yZ (iJ hk c) hk h
 | .exit id,fr,H,out,h=>h
 | .ret,fr,H,out,h=>h
 | .scope ..,fr,H,out,h=>by simp [exec] at h
 | .label ..,fr,H,out,h=>by simp [exec] at h
 | .goto ..,fr,H,out,h=>by simp [exec] at h
 | .refuse ..,fr,H,out,h=>by simp [exec] at h
 | .rangeFunc ..,fr,H,out,h=>by simp [exec] at h
def Run (C:Ctx) (T:Cf) (f m:Nat) (c:Code) (fr:Frame) (H:Heap) (out:Out):Prop:=∃ k,exec C T f m k c fr H = some out
variable {T:Cf} {f m:Nat} {fr fr':Frame} {H H':Heap} {out:Out}
theorem Run.seq {a b:Code} (h:Run C T f m a fr H ⟨.normal,fr',H'⟩) (h':Run C T f m b fr' H' out):Run C T f m (.seq a b) fr H out:=by
 obtain ⟨k0,h0⟩:=h
 obtain ⟨k1,h1⟩:=h'
 refine ⟨max k0 k1,?_⟩
 simp only [exec]
 rw [iJ (Nat.le_max_left k0 k1) a _ _ _ h0]
 exact iJ (Nat.le_max_right k0 k1) b _ _ _ h1
theorem Run.bH {a b:Code} (h:Run C T f m a fr H out) (hne:out.ex ≠ .normal):Run C T f m (.seq a b) fr H out:=by
 obtain ⟨k0,h0⟩:=h
 refine ⟨k0,?_⟩
 simp only [exec]
 rw [h0]
 obtain ⟨ex,fr',H'⟩:=out
 cases ex with
 | normal=>exact absurd rfl hne
 | exit id=>rfl
 | ret=>rfl
theorem Run.cond {c:Operand} {a b:Code} {d:Bool} (hc:aF C fr c = .bool d) (h:Run C T f m (if d then a else b) fr H out):Run C T f m (.cond c a b) fr H out:=by
 obtain ⟨k0,h0⟩:=h
 refine ⟨k0,?_⟩
 simp only [exec]
 rw [hc]
 cases d <;> exact h0
theorem Run.iP {id:Nat} {c:Code} (h:Run C T f m c fr H ⟨.exit id,fr',H'⟩):Run C T f m (.block id c) fr H ⟨.normal,fr',H'⟩:=by
 obtain ⟨k0,h0⟩:=h
 refine ⟨k0,?_⟩
 simp only [exec]
 rw [h0]
 simp
theorem Run.block {id:Nat} {c:Code} (h:Run C T f m c fr H out) (hne:out.ex ≠ .exit id):Run C T f m (.block id c) fr H out:=by
 obtain ⟨k0,h0⟩:=h
 refine ⟨k0,?_⟩
 simp only [exec]
 rw [h0]
 obtain ⟨ex,fr',H'⟩:=out
 cases ex with
 | normal=>rfl
 | exit id' =>
  have:id' ≠ id:=fun e=>hne (by rw [e])
  simp [this]
 | ret=>rfl
theorem Run.xO {c:Code} (h:Run C T f m c fr H ⟨.normal,fr',H'⟩) (h':Run C T f m (.loop c) fr' H' out):Run C T f m (.loop c) fr H out:=by
 obtain ⟨k0,h0⟩:=h
 obtain ⟨k1,h1⟩:=h'
 refine ⟨max k0 k1 + 1,?_⟩
 simp only [exec] at h1 ⊢
 rw [oW,iJ (show k0≤max k0 k1 + 1 by omega) c _ _ _ h0]
 exact yZ (iJ (show k1≤max k0 k1 + 1 by omega) c) (by omega) h1
theorem Run.Ak {c:Code} (h:Run C T f m c fr H out) (hne:out.ex ≠ .normal):Run C T f m (.loop c) fr H out:=by
 obtain ⟨k0,h0⟩:=h
 refine ⟨k0 + 1,?_⟩
 simp only [exec]
 rw [oW,iJ (show k0≤k0 + 1 by omega) c _ _ _ h0]
 obtain ⟨ex,fr',H'⟩:=out
 cases ex with
 | normal=>exact absurd rfl hne
 | exit id=>rfl
 | ret=>rfl
theorem Run.qC {c:Code} {σ:Type} (I:σ→Prop) (fr:σ→Frame) (H:σ→Heap) (out:σ→Out) (μ:σ→Nat)
  (step:∀ s,I s→(∃ s',I s'∧Run C T f m c (fr s) (H s) ⟨.normal,fr s',H s'⟩∧out s' = out s∧μ s' < μ s)∨(Run C T f m c (fr s) (H s) (out s)∧(out s).ex ≠ .normal)) (s:σ) (hs:I s) :
  Run C T f m (.loop c) (fr s) (H s) (out s):=by
 generalize hn:μ s = n
 induction n using Nat.strongRecOn generalizing s with
 | _ n ih =>
  rcases step s hs with ⟨s',h0,h1,h2,h3⟩ | ⟨h1,h2⟩
  ·rw [← h2]
   exact Run.xO h1 (ih (μ s') (by omega) s' h0 rfl)
  ·exact Run.Ak h1 h2
theorem Ev1.of {T:Cf} (hT:Below C T) {f:Nat} {args:List AV} {H:Heap} {r:AV × Heap} {fn:Func} {c:Code} {as:List AV} {aK:List fC} {out:Out} {l:List AV}
  (hF:C.P.funcs[f]? = some fn) (hb:fn.body = some c) (hl:aG C f H 0 args = some (as,aK))
  (hc:((aK.all fun x=>disjoint x.objs (reach H aB (aA as) [])) && decide (as.length + 1 < dG)) = true)
  (he:Run C T f ((reach H aB (aA as) []).length) c (numbered 0 (coerce C (bn (dH H (reach H aB (aA as) [])) (fun t=>t) as) (aJ C f)))
   ((reach H aB (aA as) []).map fun o=>(aX H o).map (aT (dH H (reach H aB (aA as) [])) (fun _=>as.length + 1) 0)) out)
  (hex:out.ex = .normal∨out.ex = .ret) (hr:aP C out.fr out.H fn.results.toList = some l)
  (hw:wrap H (reach H aB (aA as) []) (aK ++ [⟨[],ay ((reach H aB (aA as) []).map (aX H))⟩]) (aO l) out.H = some r):Ev1 C f args H r:=by
 obtain ⟨k,hk⟩:=he
 refine Fe hT (k:=k) ?_
 unfold jI
 rw [hl]
 simp only
 rw [if_pos hc]
 have:kS C T k f (coerce C (bn (dH H (reach H aB (aA as) [])) (fun t=>t) as) (aJ C f))
   ((reach H aB (aA as) []).map fun o=>(aX H o).map (aT (dH H (reach H aB (aA as) [])) (fun _=>as.length + 1) 0)) = some (aO l,out.H):=by
  unfold kS
  rw [hF]
  simp only
  rw [hb]
  simp only [List.length_map]
  rw [hk]
  obtain ⟨ex,fr',H'⟩:=out
  simp only at hex hr ⊢
  rcases hex with rfl | rfl <;> simp [hr]
 rw [this]
 exact hw
theorem Fg {H:Heap} {t:Nat} {a:AV} (hi:ids a = []):dN H t a = dN [] t a∧∀ r,dN H t a = some r→r.2.objs = []∧ids r.1 = []:=by
 cases a
 case sl o off len g=>simp [ids] at hi
 case ro c p t' =>
  refine ⟨rfl,fun r h=>?_⟩
  simp only [dN,Option.some.injEq] at h
  subst h
  exact ⟨rfl,rfl⟩
 case iW p i f t' =>
  refine ⟨rfl,fun r h=>?_⟩
  simp only [dN,Option.some.injEq] at h
  subst h
  exact ⟨rfl,rfl⟩
 all_goals
  refine ⟨rfl,fun r h=>?_⟩
  simp only [dN] at h
  split at h
  ·simp only [Option.some.injEq] at h
   subst h
   exact ⟨rfl,hi⟩
  ·cases h
theorem y5 {H:Heap} {t:Nat}:∀ {l:List AV},aA l = []→gI H t l = gI [] t l∧∀ r,gI H t l = some r→r.2.objs = []∧aA r.1 = []
 | [],_=>⟨rfl,fun r h=>by simp only [gI,Option.some.injEq] at h;subst h;exact ⟨rfl,rfl⟩⟩
 | a :: l,hi=>by
  simp only [aA,List.append_eq_nil_iff] at hi
  obtain ⟨h1,h2⟩:=Fg (H:=H) (t:=t) hi.1
  obtain ⟨h3,h4⟩:=y5 (H:=H) (t:=t) hi.2
  refine ⟨by simp only [gI,h1,h3],fun r h=>?_⟩
  simp only [gI] at h
  split at h
  ·rename_i a' x r' y e1 e2
   simp only [Option.some.injEq] at h
   subst h
   obtain ⟨q1,q2⟩:=h2 _ e1
   obtain ⟨q3,q4⟩:=h4 _ e2
   exact ⟨by simp only at q1 q3 ⊢;rw [q1,q3];rfl,by simp only [aA] at q2 q4 ⊢;rw [q2,q4];rfl⟩
  ·cases h
theorem O1 {H:Heap} {t:Nat} {a:AV} (hi:ids a = []):dS H t a = dS [] t a∧∀ r,dS H t a = some r→r.2.objs = []∧ids r.1 = []:=by
 unfold dS
 split
 ·rename_i l
  obtain ⟨h1,h2⟩:=y5 (H:=H) (t:=t) (l:=l) (by simpa [ids] using hi)
  refine ⟨by rw [h1],fun r h=>?_⟩
  cases hl:gI H t l with
  | none=>rw [hl] at h;cases h
  | some z =>
   rw [hl] at h
   simp only [Option.map_some,Option.some.injEq] at h
   subst h
   obtain ⟨q1,q2⟩:=h2 _ hl
   exact ⟨q1,by simpa [ids] using q2⟩
 ·rename_i f l
  obtain ⟨h1,h2⟩:=y5 (H:=H) (t:=t) (l:=l) (by simpa [ids] using hi)
  refine ⟨by rw [h1],fun r h=>?_⟩
  cases hl:gI H t l with
  | none=>rw [hl] at h;cases h
  | some z =>
   rw [hl] at h
   simp only [Option.map_some,Option.some.injEq] at h
   subst h
   obtain ⟨q1,q2⟩:=h2 _ hl
   exact ⟨q1,by simpa [ids] using q2⟩
 ·exact Fg hi
theorem yu {f:Nat} {H:Heap}:∀ {args:List AV} {i:Nat},aA args = []→aG C f H i args = aG C f [] i args∧∀ r,aG C f H i args = some r→(∀ x ∈ r.2,x.objs = [])∧aA r.1 = []
 | [],i,_=>⟨rfl,fun r h=>by simp only [aG,Option.some.injEq] at h;subst h;simp [aA]⟩
 | a :: l,i,hi=>by
  simp only [aA,List.append_eq_nil_iff] at hi
  obtain ⟨h1,h2⟩:=O1 (H:=H) (t:=i + 1) hi.1
  obtain ⟨h3,h4⟩:=yu (f:=f) (H:=H) (i:=i + 1) hi.2
  have e:∀ H:Heap,aG C f H i (a :: l) = match dS H (i + 1) a,aG C f H (i + 1) l with
    | some (a',x),some (r',y)=>some (a' :: r',x :: y)
    | _,_=>none:=by
   intro H
   clear h1 h2 h3 h4
   cases a
   case sl o off len g=>simp [ids] at hi
   all_goals
    simp only [aG]
    generalize dS H (i + 1) _ = x
    generalize aG C f H (i + 1) l = y
    cases C.rw f i <;> rcases x with _ | ⟨_,_⟩ <;> rcases y with _ | ⟨_,_⟩ <;> rfl
  rw [e,e,h1,h3]
  refine ⟨rfl,fun r h=>?_⟩
  rw [← h1,← h3] at h
  split at h
  ·rename_i a' x r' y e1 e2
   simp only [Option.some.injEq] at h
   subst h
   obtain ⟨q1,q2⟩:=h2 _ e1
   obtain ⟨q3,q4⟩:=h4 _ e2
   refine ⟨fun z hz=>?_,by simp only [aA] at q2 q4 ⊢;rw [q2,q4];rfl⟩
   rcases List.mem_cons.1 hz with rfl | hz
   ·exact q1
   ·exact q3 z hz
  ·cases h
theorem ug (H:Heap) (acc:List Nat):∀ n,reach H n [] acc = acc
 | 0=>rfl
 | _ + 1=>rfl
def wI (n:Nat) (o g:Nat):Option (Nat × Nat):=some (o + n,g)
def dh (n:Nat) (v:AV):AV:=ren (wI n) (fun t=>t) v
def kG (n:Nat) (N:Heap):Heap:=N.map fun x=>x.map fun ob=>aT (wI n) (fun t=>t) ob.g ob
mutual
theorem qG {ρ ρ':Nat→Nat→Option (Nat × Nat)} {τ:Nat→Nat} {n:Nat} (h:∀ o g,ρ' o g = (ρ o g).map fun x=>(x.1 + n,x.2)):(v:AV)→ren ρ' τ v = dh n (ren ρ τ v)
 | .ptr o i f g=>by
  simp only [ren,h]
  rcases ρ o g with _ | ⟨a,b⟩ <;> simp [dh,ren,wI]
 | .sl o off len g=>by
  simp only [ren,h]
  rcases ρ o g with _ | ⟨a,b⟩ <;> simp [dh,ren,wI]
 | .map o g=>by
  simp only [ren,h]
  rcases ρ o g with _ | ⟨a,b⟩ <;> simp [dh,ren,wI]
 | .ro c p t=>by simp [ren,dh]
 | .iW p i f t=>by simp [ren,dh]
 | .agg p=>by simp only [ren,dh,qG h p]
 | .tup l=>by simp only [ren,dh,nY h l]
 | .fn f l=>by simp only [ren,dh,nY h l]
 | .pc l=>by simp only [ren,dh,nY h l]
 | .pr e l=>by simp only [ren,dh,nY h l]
 | .pm l=>by simp only [ren,dh,nY h l]
 | .top=>by simp [ren,dh]
 | .bool _=>by simp [ren,dh]
 | .int _ _=>by simp [ren,dh]
 | .str _=>by simp [ren,dh]
 | .gK=>by simp [ren,dh]
 | .jD=>by simp [ren,dh]
 | .iD=>by simp [ren,dh]
 | .pn=>by simp [ren,dh]
 | .pb _=>by simp [ren,dh]
 | .pi _ _=>by simp [ren,dh]
theorem nY {ρ ρ':Nat→Nat→Option (Nat × Nat)} {τ:Nat→Nat} {n:Nat} (h:∀ o g,ρ' o g = (ρ o g).map fun x=>(x.1 + n,x.2)):(l:List AV)→bn ρ' τ l = bn (wI n) (fun t=>t) (bn ρ τ l)
 | []=>rfl
 | a :: r=>by
  have h1:=qG (τ:=τ) h a
  simp only [dh] at h1
  simp only [bn,h1,nY h r]
end
theorem wR:∀ (l:List Nat) (o i n:Nat),idxOf l o (i + n) = (idxOf l o i).map (· + n)
 | [],_,_,_=>rfl
 | a :: r,o,i,n=>by
  simp only [idxOf]
  split
  ·rfl
  ·rw [show i + n + 1 = (i + 1) + n by omega,wR r o (i + 1) n]
theorem Ev1.frame {f:Nat} {args:List AV} {v:AV} {N:Heap} (h:Ev1 C f args [] (v,N)) (hi:aA args = []) (H:Heap):Ev1 C f args H (dh H.length v,H ++ kG H.length N):=by
 obtain ⟨n0,h0⟩:=h
 refine ⟨n0 + 1,fun n hn=>?_⟩
 obtain ⟨n,rfl⟩:∃ i,n = i + 1:=⟨n - 1,by omega⟩
 have h1:=h0 (n + 1) (by omega)
 simp only [kL,jI] at h1 ⊢
 obtain ⟨e1,e2⟩:=yu (C:=C) (f:=f) (H:=H) (i:=0) hi
 rw [e1]
 split at h1
 ·cases h1
 ·rename_i as aK hl
  obtain ⟨e3,e4⟩:=e2 _ (e1.trans hl)
  simp only at e3 e4 h1 ⊢
  rw [e4] at h1 ⊢
  simp only [ug,List.map_nil,List.length_nil] at h1 ⊢
  have Zd:∀ (H H':Heap) (l:List AV),bn (dH H []) (fun t=>t) l = bn (dH H' []) (fun t=>t) l:=by
   intro H H' l
   have:dH H [] = dH H' []:=by
    funext o g
    unfold dH
    split <;> split <;> simp [idxOf]
   rw [this]
  rw [Zd H []]
  split at h1
  ·rename_i hc
   rw [if_pos hc]
   split at h1
   ·cases h1
   ·rename_i u H1 hb
    unfold wrap at h1 ⊢
    simp only [List.length_nil,List.range_zero,List.nil_append,List.map_nil,ay,List.append_nil] at h1 ⊢
    split at h1
    ·rename_i hu
     rw [if_pos hu]
     generalize (List.filter (fun o=>decide (0≤o)) (reach H1 aB (ids u) [])) = new at h1 ⊢
     have Gw:∀ o g,bQ H [] new H1 o g = (bQ [] [] new H1 o g).map fun x=>(x.1 + H.length,x.2):=by
      intro o g
      unfold bQ
      split
      ·have:=wR new o 0 H.length
       rw [Nat.zero_add] at this
       simp [this,Option.map_map,Function.comp_def]
      ·rfl
     have Uz:∀ t,dM (aK ++ [⟨[],[]⟩]) t = []:=by
      intro t
      unfold dM
      split
      ·rfl
      ·split
       ·rename_i x hx
        rcases List.mem_append.1 (List.mem_of_getElem? hx) with hx | hx
        ·exact e3 x hx
        ·simp only [List.mem_singleton] at hx
         rw [hx]
       ·rfl
     have hfl:∀ l:List Nat,l.flatMap (dM (aK ++ [⟨[],[]⟩])) = []:=fun l=>by simp [Uz]
     simp only [hfl,List.filter_nil] at h1 ⊢
     simp only [List.filter_nil,strike,bW,List.nil_append,Option.some.injEq,Prod.mk.injEq] at h1 ⊢
     obtain ⟨h2,h3⟩:=h1
     refine ⟨by rw [← h2];exact qG Gw u,?_⟩
     rw [← h3]
     congr 1
     simp only [kG,List.map_map]
     refine List.map_congr_left fun o _=>?_
     simp only [Function.comp]
     cases aX H1 o with
     | none=>rfl
     | some ob =>
      simp only [Option.map_some,aT,Option.some.injEq]
      have:=qG (τ:=bV (aK ++ [⟨[],[]⟩])) Gw ob.p
      simp only [dh] at this
      rw [this]
    ·cases h1
  ·cases h1
end
end Go.AM
namespace Go.AM
structure Row1 where
 f:Nat
 args:List AV
 res:AV
 N:Heap
def kJ (C:Ctx) (L:List Row1):Prop:=∀ e ∈ L,Ev1 C e.f e.args [] (e.res,e.N)∧aA e.args = []
theorem kJ.nil {C:Ctx}:kJ C []:=by intro e h;simp at h
def Fh (C:Ctx) (T:Cf) (n:Nat) (e:Row1):Bool :=
 (aA e.args).isEmpty && (match jI C (kS C (QS C T n) n) e.f e.args [] with
  | some (v,N)=>iV v e.res && eqH N e.N
  | none=>false)
theorem kJ.cons {C:Ctx} {T:Cf} (hT:Below C T) {L:List Row1} (hL:kJ C L) {n:Nat} {e:Row1} (h:Fh C T n e = true):kJ C (e :: L):=by
 intro x hx
 rcases List.mem_cons.1 hx with rfl | hx
 ·unfold Fh at h
  simp only [Bool.and_eq_true,List.isEmpty_iff] at h
  refine ⟨?_,h.1⟩
  have h2:=h.2
  split at h2
  ·rename_i v N hv
   simp only [Bool.and_eq_true] at h2
   rw [← xH _ _ h2.1,← yH h2.2]
   exact Fe (Dq hT n) hv
  ·cases h2
 ·exact hL x hx
end Go.AM
namespace Go.AM
def dP (H:Heap):AV→Option AV
 | .ro _ p _=>some p
 | .sl o off len g=>match live H o g with
  | some ob=>if ob.ids then none else jd ob.p off len
  | none=>none
 | _=>none
theorem VF {H:Heap} {t:Nat} {a p:AV} (h:dP H a = some p):∃ c x,dS H t a = some (.ro c p t,x):=by
 cases a <;> simp only [dP,reduceCtorEq] at h
 case ro c q t' =>
  simp only [Option.some.injEq] at h
  subst h
  exact ⟨c,_,rfl⟩
 case sl o off len g =>
  split at h
  ·rename_i ob hl
   split at h
   ·cases h
   ·rename_i hi
    exact ⟨if ob.z = 0∧ah ob.p = 0 then 0 else 2,⟨[o],[ob.tg]⟩,by simp [dS,dN,hl,hi,h]⟩
  ·cases h
def yw:AV→Bool
 | .bool _ | .int _ _ | .str _ | .gK | .jD | .iD=>true
 | .agg (.pb _) | .agg (.pi _ _)=>true
 | _=>false
theorem TB {H:Heap} {t:Nat} {a:AV} (h:yw a = true):dS H t a = some (a,⟨[],[]⟩):=by
 cases a <;> simp only [yw,Bool.false_eq_true] at h <;> try rfl
 case agg p=>cases p <;> simp only [yw,Bool.false_eq_true] at h <;> rfl
theorem MQ {a:AV} (h:yw a = true):ids a = []∧tags a = []:=by
 cases a <;> simp only [yw,Bool.false_eq_true] at h <;> try exact ⟨rfl,rfl⟩
 case agg p=>cases p <;> simp only [yw,Bool.false_eq_true] at h <;> exact ⟨rfl,rfl⟩
def faV (H:Heap) (x:AV) (off:Nat):Option AV :=
 match x with
 | .ptr o i f g=>match live H o g with | some ob=>some (Ae ob.p o i f g off) | none=>none
 | .iW p i f t=>some (Af p i f t off)
 | _=>none
def fvV (C:Ctx) (x:AV) (off ty:Nat):Option AV :=
 match x with
 | .agg (.pc l) =>
  if bF C ty then
   if ((l.drop off).take (sizeT C ty)).length = sizeT C ty then (mg C ty ((l.drop off).take (sizeT C ty))).map .agg else none
  else if okT C ty then l[off]? else none
 | _=>none
theorem bK {C:Ctx} {s:TypeId} {n off:Nat} {ty:TypeId} (h:((fieldsOf C s)[n]?).map (fun fd=>(fd.offset,fd.type)) = some (off,ty)) (hs:(sizeT C ty == 0) = false) (H:Heap) (x:AV) :
  bD C H s x n = faV H x off:=by
 cases hf:(fieldsOf C s)[n]? with
 | none=>rw [hf] at h;cases h
 | some fd =>
  rw [hf] at h
  simp only [Option.map_some,Option.some.injEq,Prod.mk.injEq] at h
  obtain ⟨rfl,rfl⟩:=h
  have:¬ sizeT C fd.type = 0:=by simpa using hs
  unfold bD faV
  rw [hf]
  simp only [if_neg this]
  cases x <;> rfl
theorem fA {C:Ctx} {s:TypeId} {n off:Nat} {ty:TypeId} (h:((fieldsOf C s)[n]?).map (fun fd=>(fd.offset,fd.type)) = some (off,ty)) (x:AV) :
  gG C s x n = fvV C x off ty:=by
 cases hf:(fieldsOf C s)[n]? with
 | none=>rw [hf] at h;cases h
 | some fd =>
  rw [hf] at h
  simp only [Option.map_some,Option.some.injEq,Prod.mk.injEq] at h
  obtain ⟨rfl,rfl⟩:=h
  unfold gG fvV
  rw [hf]
  cases x <;> try rfl
  case agg p=>cases p <;> rfl
section
variable {C:Ctx} {f:Nat} {H:Heap}
theorem fF (i:Nat):aG C f H i [] = some ([],[]):=rfl
theorem fV {i:Nat} {a p:AV} {r as:List AV} {xs:List fC} (hrw:C.rw f i = false) (h:dP H a = some p) (hr:aG C f H (i + 1) r = some (as,xs)) :
  ∃ c x,aG C f H i (a :: r) = some (.ro c p (i + 1) :: as,x :: xs):=by
 obtain ⟨c,x,hx⟩:=VF (t:=i + 1) h
 exact ⟨c,x,by simp only [aG,hrw,hx,hr]⟩
theorem lH {i:Nat} {a:AV} {r as:List AV} {xs:List fC} (hrw:C.rw f i = false) (h:yw a = true) (hr:aG C f H (i + 1) r = some (as,xs)) :
  aG C f H i (a :: r) = some (a :: as,⟨[],[]⟩ :: xs):=by
 simp only [aG,hrw,TB h,hr]
theorem dK (H:Heap):reach H aB [] [] = []:=ug H [] aB
mutual
theorem jc {ρ:Nat→Nat→Option (Nat × Nat)} {τ:Nat→Nat}:(v:AV)→ids v = []→(∀ t ∈ tags v,τ t = t)→ren ρ τ v = v
 | .ptr ..,h,_=>by simp [ids] at h
 | .sl ..,h,_=>by simp [ids] at h
 | .map ..,h,_=>by simp [ids] at h
 | .ro c p t,_,ht=>by simp only [ren,ht t (by simp [tags])]
 | .iW p i f t,_,ht=>by simp only [ren,ht t (by simp [tags])]
 | .agg p,h,ht=>by simp only [ids] at h;simp only [tags] at ht;simp only [ren,jc p h ht]
 | .tup l,h,ht=>by simp only [ids] at h;simp only [tags] at ht;simp only [ren,fE l h ht]
 | .fn f l,h,ht=>by simp only [ids] at h;simp only [tags] at ht;simp only [ren,fE l h ht]
 | .pc l,h,ht=>by simp only [ids] at h;simp only [tags] at ht;simp only [ren,fE l h ht]
 | .pr e l,h,ht=>by simp only [ids] at h;simp only [tags] at ht;simp only [ren,fE l h ht]
 | .pm l,h,ht=>by simp only [ids] at h;simp only [tags] at ht;simp only [ren,fE l h ht]
 | .top,_,_=>rfl
 | .bool _,_,_=>rfl
 | .int _ _,_,_=>rfl
 | .str _,_,_=>rfl
 | .gK,_,_=>rfl
 | .jD,_,_=>rfl
 | .iD,_,_=>rfl
 | .pn,_,_=>rfl
 | .pb _,_,_=>rfl
 | .pi _ _,_,_=>rfl
theorem fE {ρ:Nat→Nat→Option (Nat × Nat)} {τ:Nat→Nat}:(l:List AV)→aA l = []→(∀ t ∈ aU l,τ t = t)→bn ρ τ l = l
 | [],_,_=>rfl
 | a :: r,h,ht=>by
  simp only [aA,List.append_eq_nil_iff] at h
  simp only [aU,List.mem_append] at ht
  simp only [bn,jc a h.1 (fun t h'=>ht t (.inl h')),fE r h.2 (fun t h'=>ht t (.inr h'))]
end
mutual
theorem gX {ρ ρ':Nat→Nat→Option (Nat × Nat)} {τ τ':Nat→Nat}:(v:AV)→(∀ o g,o ∈ ids v→ρ o g = ρ' o g)→(∀ t ∈ tags v,τ t = τ' t)→ren ρ τ v = ren ρ' τ' v
 | .ptr o i f g,h,_=>by simp only [ren,h o g (by simp [ids])]
 | .sl o a b g,h,_=>by simp only [ren,h o g (by simp [ids])]
 | .map o g,h,_=>by simp only [ren,h o g (by simp [ids])]
 | .ro c p t,_,ht=>by simp only [ren,ht t (by simp [tags])]
 | .iW p i f t,_,ht=>by simp only [ren,ht t (by simp [tags])]
 | .agg p,h,ht=>by simp only [ids] at h;simp only [tags] at ht;simp only [ren,gX p h ht]
 | .tup l,h,ht=>by simp only [ids] at h;simp only [tags] at ht;simp only [ren,qH l h ht]
 | .fn f l,h,ht=>by simp only [ids] at h;simp only [tags] at ht;simp only [ren,qH l h ht]
 | .pc l,h,ht=>by simp only [ids] at h;simp only [tags] at ht;simp only [ren,qH l h ht]
 | .pr e l,h,ht=>by simp only [ids] at h;simp only [tags] at ht;simp only [ren,qH l h ht]
 | .pm l,h,ht=>by simp only [ids] at h;simp only [tags] at ht;simp only [ren,qH l h ht]
 | .top,_,_=>rfl
 | .bool _,_,_=>rfl
 | .int _ _,_,_=>rfl
 | .str _,_,_=>rfl
 | .gK,_,_=>rfl
 | .jD,_,_=>rfl
 | .iD,_,_=>rfl
 | .pn,_,_=>rfl
 | .pb _,_,_=>rfl
 | .pi _ _,_,_=>rfl
theorem qH {ρ ρ':Nat→Nat→Option (Nat × Nat)} {τ τ':Nat→Nat}:(l:List AV)→(∀ o g,o ∈ aA l→ρ o g = ρ' o g)→(∀ t ∈ aU l,τ t = τ' t)→bn ρ τ l = bn ρ' τ' l
 | [],_,_=>rfl
 | a :: r,h,ht=>by
  simp only [aA,List.mem_append] at h
  simp only [aU,List.mem_append] at ht
  simp only [bn,gX a (fun o g h'=>h o g (.inl h')) (fun t h'=>ht t (.inl h')),qH r (fun o g h'=>h o g (.inr h')) (fun t h'=>ht t (.inr h'))]
end
theorem ku (l:List Nat):disjoint l [] = true:=iF.2 fun _ _ h=>by simp at h
theorem O4 {aK:List fC} {v:AV} {H1:Heap} (hi:ids v = []) (ht:tags v = []):wrap H [] aK v H1 = some (v,H):=by
 unfold wrap
 simp only [List.length_nil,List.range_zero,List.nil_append,hi,dK,List.filter_nil,List.map_nil,ht,ay,List.append_nil,List.all_nil,if_true,List.flatMap_nil,strike,bW]
 rw [jc v hi (by simp [ht])]
def fresh (ob:Obj):Obj:={ ob with g:=0,tg:=0 }
def mX:AV→Bool
 | .pb _ | .pi _ _ | .pn=>true
 | _=>false
theorem Fj {ρ:Nat→Nat→Option (Nat × Nat)} {τ:Nat→Nat} {p:AV} (h:mX p = true):ren ρ τ p = p:=by
 cases p <;> simp [mX] at h <;> rfl
theorem Ci {H1:Heap} {o:Nat} {ob:Obj} (ho:H1[o]? = some (some ob)) (hob:ob.ids = false):reach H1 aB [o] [] = [o]:=by
 show reach H1 (99998 + 1 + 1) [o] [] = [o]
 simp [reach,ho,hob]
theorem VG {aK:List fC} {v:AV} {H1:Heap} {o g:Nat} {ob:Obj} (hi:ids v = [o]) (ht:tags v = []) (hl:live H1 o g = some ob) (hob:ob.ids = false) (hp:mX ob.p = true) (htg:ob.tg = 0) :
  wrap H [] aK v H1 = some (ren (fun o' g'=>if o' = o∧g' = g then some (H.length,0) else none) (fun t=>t) v,H ++ [some (fresh ob)]):=by
 obtain ⟨h1,h2⟩:=bI.1 hl
 unfold wrap
 have hat:aX H1 o = some ob:=by simp [aX,h1]
 have VD:dF ob = [0]:=by
  unfold dF
  rw [hob,htg]
  cases hq:ob.p <;> simp [hq,mX] at hp <;> simp
 have hρ:ren (bQ H [] [o] H1) (bV aK) v = ren (fun o' g'=>if o' = o∧g' = g then some (H.length,0) else none) (fun t=>t) v:=by
  have key:∀ o' g',o' ∈ ids v→bQ H [] [o] H1 o' g' = if o' = o∧g' = g then some (H.length,0) else none:=by
   intro o' g' hm
   rw [hi] at hm
   simp only [List.mem_singleton] at hm
   subst hm
   unfold bQ
   by_cases hg:g' = g
   ·subst hg
    rw [hl]
    simp [idxOf]
   ·have:live H1 o' g' = none:=by
     simp only [live,h1]
     rw [if_neg (fun e=>hg (e.symm.trans h2))]
    rw [this]
    simp [hg]
  exact gX v (fun o' g' hm=>key o' g' hm) (by simp [ht])
 simp only [List.length_nil,List.range_zero,List.nil_append,hi,Ci h1 hob,ht,ay,List.append_nil,List.map_nil,hat,VD,List.map_cons,Nat.zero_le,decide_true,List.filter_cons_of_pos,List.filter_nil,strike,bW]
 have h0:dU aK 0 = some 0:=rfl
 simp only [List.all_cons,List.all_nil,h0,Option.isSome_some,Bool.and_true,if_true,List.flatMap_cons,List.flatMap_nil,dM,List.append_nil,List.filter_nil,strike,Option.map_some,Option.some.injEq,Prod.mk.injEq]
 refine ⟨hρ,?_⟩
 simp only [aT,Fj hp,fresh,htg]
 rfl
variable {T:Cf}
theorem Ev1.plain (hT:Below C T) {args:List AV} {fn:Func} {c:Code} {as:List AV} {aK:List fC} {out:Out} {l:List AV}
  (hF:C.P.funcs[f]? = some fn) (hb:fn.body = some c) (hl:aG C f H 0 args = some (as,aK)) (hi:aA as = []) (hn:as.length + 1 < dG)
  (he:Run C T f 0 c (numbered 0 (coerce C as (aJ C f))) [] out) (hex:out.ex = .normal∨out.ex = .ret) (hr:aP C out.fr out.H fn.results.toList = some l)
  (hv:ids (aO l) = []) (ht:tags (aO l) = []):Ev1 C f args H (aO l,H):=by
 refine Ev1.of hT hF hb hl ?_ ?_ hex hr ?_
 ·rw [hi,dK]
  simp only [Bool.and_eq_true,decide_eq_true_eq]
  exact ⟨List.all_eq_true.2 fun x _=>ku x.objs,hn⟩
 ·rw [hi,dK,fE as hi (fun _ _=>rfl)]
  exact he
 ·rw [hi,dK]
  exact O4 hv ht
theorem Ev1.fresh (hT:Below C T) {args:List AV} {fn:Func} {c:Code} {as:List AV} {aK:List fC} {out:Out} {l:List AV} {o g:Nat} {ob:Obj}
  (hF:C.P.funcs[f]? = some fn) (hb:fn.body = some c) (hl:aG C f H 0 args = some (as,aK)) (hi:aA as = []) (hn:as.length + 1 < dG)
  (he:Run C T f 0 c (numbered 0 (coerce C as (aJ C f))) [] out) (hex:out.ex = .normal∨out.ex = .ret) (hr:aP C out.fr out.H fn.results.toList = some l)
  (hv:ids (aO l) = [o]) (ht:tags (aO l) = []) (ho:live out.H o g = some ob) (hob:ob.ids = false) (hp:mX ob.p = true) (htg:ob.tg = 0) :
  Ev1 C f args H (ren (fun o' g'=>if o' = o∧g' = g then some (H.length,0) else none) (fun t=>t) (aO l),H ++ [some (AM.fresh ob)]):=by
 refine Ev1.of hT hF hb hl ?_ ?_ hex hr ?_
 ·rw [hi,dK]
  simp only [Bool.and_eq_true,decide_eq_true_eq]
  exact ⟨List.all_eq_true.2 fun x _=>ku x.objs,hn⟩
 ·rw [hi,dK,fE as hi (fun _ _=>rfl)]
  exact he
 ·rw [hi,dK]
  exact VG hv ht ho hob hp htg
end
-- what a call tells of what is Ze,whatever the form in which it is handed over
section
variable {C:Ctx} {f:Nat} {H:Heap}
theorem Fp {t:Nat} {a a':AV} {x:fC} (h:dN H t a = some (a',x)) (hi:ids a' = []) :
  ∃ y:fC,(∀ H2,dN H2 t a' = some (a',y))∧(∀ s ∈ y.tags,s = t)∧y.objs = []∧(y.tags = []→x.tags = []∧x.objs = []):=by
 cases a
 case sl o off len g =>
  simp only [dN] at h
  split at h
  ·rename_i ob hl
   split at h
   ·cases h
   ·simp only [Option.map_eq_some_iff,Prod.mk.injEq] at h
    obtain ⟨p,_,rfl,rfl⟩:=h
    exact ⟨⟨[],[t]⟩,fun _=>rfl,by simp,rfl,by simp⟩
  ·cases h
 case ro c p t' =>
  simp only [dN,Option.some.injEq,Prod.mk.injEq] at h
  obtain ⟨rfl,rfl⟩:=h
  exact ⟨⟨[],[t]⟩,fun _=>rfl,by simp,rfl,by simp⟩
 case iW p i g t' =>
  simp only [dN,Option.some.injEq,Prod.mk.injEq] at h
  obtain ⟨rfl,rfl⟩:=h
  exact ⟨⟨[],[t]⟩,fun _=>rfl,by simp,rfl,by simp⟩
 all_goals
  simp only [dN] at h
  split at h
  ·rename_i ht
   simp only [Option.some.injEq,Prod.mk.injEq] at h
   obtain ⟨rfl,rfl⟩:=h
   exact ⟨⟨[],[]⟩,fun _=>by simp only [dN];rw [if_pos ht],by simp,rfl,fun _=>⟨rfl,rfl⟩⟩
  ·cases h
theorem y7 {t:Nat}:∀ {l l':List AV} {x:fC},gI H t l = some (l',x)→aA l' = [] →
  ∃ y:fC,(∀ H2,gI H2 t l' = some (l',y))∧(∀ s ∈ y.tags,s = t)∧y.objs = []∧(y.tags = []→x.tags = []∧x.objs = [])
 | [],l',x,h,_=>by
  simp only [gI,Option.some.injEq,Prod.mk.injEq] at h
  obtain ⟨rfl,rfl⟩:=h
  exact ⟨⟨[],[]⟩,fun _=>rfl,by simp,rfl,fun _=>⟨rfl,rfl⟩⟩
 | a :: l,l',x,h,hi=>by
  simp only [gI] at h
  split at h
  ·rename_i a' x1 r' x2 e1 e2
   simp only [Option.some.injEq,Prod.mk.injEq] at h
   obtain ⟨rfl,rfl⟩:=h
   simp only [aA,List.append_eq_nil_iff] at hi
   obtain ⟨y1,q1,q2,q3,q4⟩:=Fp e1 hi.1
   obtain ⟨y2,p1,p2,p3,p4⟩:=y7 e2 hi.2
   refine ⟨⟨y1.objs ++ y2.objs,y1.tags ++ y2.tags⟩,fun H2=>by simp only [gI,q1,p1],?_,by simp [q3,p3],?_⟩
   ·intro s hs
    rcases List.mem_append.1 hs with hs | hs
    ·exact q2 s hs
    ·exact p2 s hs
   ·intro hy
    simp only [List.append_eq_nil_iff] at hy
    obtain ⟨h1,h2⟩:=q4 hy.1
    obtain ⟨h3,h4⟩:=p4 hy.2
    simp [h1,h2,h3,h4]
  ·cases h
theorem O5 {t:Nat} {a a':AV} {x:fC} (h:dS H t a = some (a',x)) (hi:ids a' = []) :
  ∃ y:fC,(∀ H2,dS H2 t a' = some (a',y))∧(∀ s ∈ y.tags,s = t)∧y.objs = []∧(y.tags = []→x.tags = []∧x.objs = []):=by
 unfold dS at h
 split at h
 ·rename_i l
  cases hl:gI H t l with
  | none=>rw [hl] at h;cases h
  | some z =>
   obtain ⟨l',x'⟩:=z
   rw [hl] at h
   simp only [Option.map_some,Option.some.injEq,Prod.mk.injEq] at h
   obtain ⟨rfl,rfl⟩:=h
   obtain ⟨y,q1,q2⟩:=y7 hl (by simpa [ids] using hi)
   exact ⟨y,fun H2=>by simp only [dS,q1 H2,Option.map_some],q2⟩
 ·rename_i g l
  cases hl:gI H t l with
  | none=>rw [hl] at h;cases h
  | some z =>
   obtain ⟨l',x'⟩:=z
   rw [hl] at h
   simp only [Option.map_some,Option.some.injEq,Prod.mk.injEq] at h
   obtain ⟨rfl,rfl⟩:=h
   obtain ⟨y,q1,q2⟩:=y7 hl (by simpa [ids] using hi)
   exact ⟨y,fun H2=>by simp only [dS,q1 H2,Option.map_some],q2⟩
 ·rename_i n1 n2
  obtain ⟨y,q1,q2⟩:=Fp h hi
  refine ⟨y,fun H2=>?_,q2⟩
  unfold dS
  split
  ·rename_i l
   exfalso
   cases a <;> simp only [dN] at h <;> first | (split at h <;> first | (simp only [Option.some.injEq,Prod.mk.injEq] at h;cases h.1;exact n1 _ rfl) | cases h | skip) | skip
   all_goals simp_all
  ·rename_i g l
   exfalso
   cases a <;> simp only [dN] at h <;> first | (split at h <;> first | (simp only [Option.some.injEq,Prod.mk.injEq] at h;cases h.1;exact n2 _ _ rfl) | cases h | skip) | skip
   all_goals simp_all
  ·exact q1 H2
theorem yx:∀ {args as:List AV} {i:Nat} {xs:List fC},aG C f H i args = some (as,xs)→aA as = [] →
  ∃ ys:List fC,(∀ H2,aG C f H2 i as = some (as,ys))∧ys.length = xs.length ∧
   ∀ k y,ys[k]? = some y→∃ x,xs[k]? = some x∧(∀ s ∈ y.tags,s = i + k + 1)∧y.objs = []∧(y.tags = []→x.tags = []∧x.objs = [])
 | [],as,i,xs,h,_=>by
  simp only [aG,Option.some.injEq,Prod.mk.injEq] at h
  obtain ⟨rfl,rfl⟩:=h
  exact ⟨[],fun _=>rfl,rfl,fun k y h=>by simp at h⟩
 | a :: l,as,i,xs,h,hi=>by
  have e:∀ (H:Heap) (a:AV) (l:List AV),ids a = []→aG C f H i (a :: l) = match dS H (i + 1) a,aG C f H (i + 1) l with
    | some (a',x),some (r',y)=>some (a' :: r',x :: y)
    | _,_=>none:=by
   intro H a l ha
   cases a
   case sl o off len g=>simp [ids] at ha
   all_goals
    simp only [aG]
    generalize dS H (i + 1) _ = x
    generalize aG C f H (i + 1) l = y
    cases C.rw f i <;> rcases x with _ | ⟨_,_⟩ <;> rcases y with _ | ⟨_,_⟩ <;> rfl
  simp only [aG] at h
  split at h
  ·rename_i a' x1 r' x2 e1 e2
   simp only [Option.some.injEq,Prod.mk.injEq] at h
   obtain ⟨rfl,rfl⟩:=h
   simp only [aA,List.append_eq_nil_iff] at hi
   have e3:dS H (i + 1) a = some (a',x1):=by
    split at e1
    ·simp only [Option.some.injEq,Prod.mk.injEq] at e1
     obtain ⟨rfl,rfl⟩:=e1
     simp [ids] at hi
    ·exact e1
   obtain ⟨y1,q1,q2,q3,q4⟩:=O5 e3 hi.1
   obtain ⟨ys,p1,p2,p3⟩:=yx e2 hi.2
   refine ⟨y1 :: ys,fun H2=>by rw [e H2 a' r' hi.1,q1,p1],by simp [p2],fun k y hy=>?_⟩
   cases k with
   | zero =>
    simp only [List.getElem?_cons_zero,Option.some.injEq] at hy
    subst hy
    exact ⟨x1,rfl,q2,q3,q4⟩
   | succ k =>
    obtain ⟨x,h1,h2,h3⟩:=p3 k y (by simpa using hy)
    exact ⟨x,by simpa using h1,fun s hs=>by rw [h2 s hs];omega,h3⟩
  ·cases h
mutual
theorem jH {ρ:Nat→Nat→Option (Nat × Nat)} {τ:Nat→Nat}:(v:AV)→tags (ren ρ τ v) = (tags v).map τ
 | .ptr o i f g=>by simp only [ren];rcases ρ o g with _ | ⟨_,_⟩ <;> rfl
 | .sl o a b g=>by simp only [ren];rcases ρ o g with _ | ⟨_,_⟩ <;> rfl
 | .map o g=>by simp only [ren];rcases ρ o g with _ | ⟨_,_⟩ <;> rfl
 | .ro c p t=>rfl
 | .iW p i f t=>rfl
 | .agg p=>by simp only [ren,tags,jH p]
 | .tup l=>by simp only [ren,tags,lg l]
 | .fn f l=>by simp only [ren,tags,lg l]
 | .pc l=>by simp only [ren,tags,lg l]
 | .pr e l=>by simp only [ren,tags,lg l]
 | .pm l=>by simp only [ren,tags,lg l]
 | .top=>rfl
 | .bool _=>rfl
 | .int _ _=>rfl
 | .str _=>rfl
 | .gK=>rfl
 | .jD=>rfl
 | .iD=>rfl
 | .pn=>rfl
 | .pb _=>rfl
 | .pi _ _=>rfl
theorem lg {ρ:Nat→Nat→Option (Nat × Nat)} {τ:Nat→Nat}:(l:List AV)→aU (bn ρ τ l) = (aU l).map τ
 | []=>rfl
 | a :: r=>by simp only [bn,aU,List.map_append,jH a,lg r]
end
theorem O6 {ρ:Nat→Nat→Option (Nat × Nat)} {τ:Nat→Nat} {g:Nat} (ob:Obj):dF (aT ρ τ g ob) = (dF ob).map τ:=by
 unfold dF aT
 simp only
 split
 ·exact jH ob.p
 ·simp only [List.map_cons,List.cons.injEq,true_and]
  cases ob.p <;> simp only [ren,List.map_nil]
  case ptr o i f g=>rcases ρ o g with _ | ⟨_,_⟩ <;> rfl
  case sl o a b g=>rcases ρ o g with _ | ⟨_,_⟩ <;> rfl
  case map o g=>rcases ρ o g with _ | ⟨_,_⟩ <;> rfl
  case pm l=>exact lg l
theorem uX {ρ:Nat→Nat→Option (Nat × Nat)} {τ:Nat→Nat} {g:Nat→Nat}:∀ (l:List (Option Obj)),ay (l.map fun x=>x.map fun ob=>aT ρ τ (g ob.g) ob) = (ay l).map τ
 | []=>rfl
 | none :: r=>by simp only [List.map_cons,Option.map_none,ay,uX r]
 | some ob :: r=>by simp only [List.map_cons,Option.map_some,ay,List.map_append,O6,uX r]
theorem sV {t:Nat} (ht:t ≠ 0):∀ {l:List Nat},(∀ s ∈ l,s = t)→l ≠ []→dO l = some t
 | [],_,h=>absurd rfl h
 | a :: [],h,_=>by
  have:=h a (by simp)
  subst this
  simp [dO,eX,ht]
 | a :: b :: r,h,_=>by
  have:=h a (by simp)
  subst this
  have ih:=sV ht (l:=b :: r) (fun s hs=>h s (by simp at hs ⊢;right;exact hs)) (by simp)
  rw [dO,ih]
  simp [eX,ht]
def wu (v:AV):Bool:=(tags v).all (· == 0)
def qP (N:Heap):Bool:=N.all fun | some ob=>ob.tg == 0 && (tags ob.p).all (· == 0) | none=>true
theorem O7 {v:AV} (h:wu v = true):∀ t ∈ tags v,t = 0:=fun t ht=>by simpa using List.all_eq_true.1 h t ht
theorem Fq {N:Heap} (h:qP N = true) {ob:Obj} (ho:some ob ∈ N):ob.tg = 0∧∀ t ∈ tags ob.p,t = 0:=by
 have:=List.all_eq_true.1 h _ ho
 simp only [Bool.and_eq_true,beq_iff_eq,List.all_eq_true] at this
 exact this
theorem XY {ob:Obj} (h:ob.tg = 0∧∀ t ∈ tags ob.p,t = 0):∀ t ∈ dF ob,t = 0:=by
 intro t ht
 unfold dF at ht
 split at ht
 ·exact h.2 t ht
 ·rcases List.mem_cons.1 ht with rfl | ht
  ·exact h.1
  ·cases hp:ob.p <;> rw [hp] at ht <;> simp only [List.not_mem_nil] at ht
   rw [hp] at h
   exact h.2 t ht
theorem Cj:∀ {N:Heap},qP N = true→∀ t ∈ ay N,t = 0
 | [],_,t,ht=>by simp [ay] at ht
 | none :: r,h,t,ht=>by
  refine Cj (N:=r) ?_ t (by simpa [ay] using ht)
  simpa [qP] using h
 | some ob :: r,h,t,ht=>by
  simp only [ay,List.mem_append] at ht
  rcases ht with ht | ht
  ·exact XY (Fq h (by simp)) t ht
  ·refine Cj (N:=r) ?_ t ht
   simp only [qP,List.all_cons,Bool.and_eq_true] at h
   exact h.2
theorem Ev1.Ze {args as:List AV} {xs:List fC} {v:AV} {N:Heap} (h:Ev1 C f as [] (v,N)) (hl:aG C f H 0 args = some (as,xs)) (hi:aA as = [])
  (hcv:wu v = true) (hcN:qP N = true):Ev1 C f args H (dh H.length v,H ++ kG H.length N):=by
 have hv:=O7 hcv
 have hN:=Cj hcN
 obtain ⟨ys,k1,k2,k3⟩:=yx hl hi
 obtain ⟨n0,h0⟩:=h
 have kz:∀ t,bV (ys ++ [⟨[],[]⟩]) t = 0→bV (xs ++ [⟨[],[]⟩]) t = 0:=by
  intro t hb0
  unfold bV dU at hb0 ⊢
  split
  ·rfl
  ·rename_i ht0
   rw [if_neg ht0] at hb0
   by_cases hlt:t - 1 < ys.length
   ·rw [List.getElem?_append_left hlt,List.getElem?_eq_getElem hlt] at hb0
    simp only at hb0
    obtain ⟨x,q1,q2,q3,q4⟩:=k3 (t - 1) _ (List.getElem?_eq_getElem hlt)
    rw [List.getElem?_append_left (by omega),q1]
    simp only
    have hnil:(ys[t - 1]).tags = []:=by
     apply Classical.byContradiction
     intro hne
     have:=sV (t:=0 + (t - 1) + 1) (by omega) q2 hne
     rw [this] at hb0
     simp at hb0
    rw [(q4 hnil).1]
    rfl
   ·by_cases hlt2:t - 1 = ys.length
    ·have e:(xs ++ [(⟨[],[]⟩:fC)])[t - 1]? = some ⟨[],[]⟩:=by
      rw [List.getElem?_append_right (by omega),hlt2,k2]
      simp
     rw [e]
     rfl
    ·have e:(xs ++ [(⟨[],[]⟩:fC)])[t - 1]? = none:=by
      rw [List.getElem?_eq_none]
      simp
      omega
     rw [e]
     rfl
 refine ⟨n0 + 1,fun n hn=>?_⟩
 obtain ⟨n,rfl⟩:∃ i,n = i + 1:=⟨n - 1,by omega⟩
 have h1:=h0 (n + 1) (by omega)
 simp only [kL,jI] at h1 ⊢
 rw [k1 []] at h1
 rw [hl]
 simp only at h1 ⊢
 rw [hi] at h1 ⊢
 simp only [ug,List.map_nil,List.length_nil] at h1 ⊢
 rw [fE as hi (fun _ _=>rfl)] at h1 ⊢
 split at h1
 ·rename_i hc
  have hc':((xs.all fun x=>disjoint x.objs []) && decide (as.length + 1 < dG)) = true:=by
   simp only [Bool.and_eq_true] at hc ⊢
   exact ⟨List.all_eq_true.2 fun x _=>ku x.objs,hc.2⟩
  rw [if_pos hc']
  split at h1
  ·cases h1
  ·rename_i u H1 hb
   unfold wrap at h1 ⊢
   simp only [List.length_nil,List.range_zero,List.nil_append,List.map_nil,ay,List.append_nil] at h1 ⊢
   generalize hnew:(List.filter (fun o=>decide (0≤o)) (reach H1 aB (ids u) [])) = new at h1 ⊢
   split at h1
   ·rename_i hu
    simp only [Option.some.injEq,Prod.mk.injEq] at h1
    obtain ⟨h2,h3⟩:=h1
    have ZR:∀ t,dM (ys ++ [⟨[],[]⟩]) t = []:=by
     intro t
     unfold dM
     split
     ·rfl
     ·split
      ·rename_i x hx
       rcases List.mem_append.1 (List.mem_of_getElem? hx) with hx | hx
       ·obtain ⟨k,hk⟩:=List.getElem?_of_mem hx
        obtain ⟨_,_,_,q,_⟩:=k3 k x hk
        exact q
       ·simp only [List.mem_singleton] at hx
        rw [hx]
      ·rfl
    have agt:∀ l:List Nat,l.flatMap (dM (ys ++ [⟨[],[]⟩])) = []:=fun l=>by simp [ZR]
    simp only [agt,List.filter_nil] at h3
    simp only [List.filter_nil,strike,bW,List.nil_append] at h3
    -- all tags used are none
    have hz:∀ t ∈ tags u ++ ay (new.map (aX H1)),bV (ys ++ [⟨[],[]⟩]) t = 0:=by
     intro t ht
     rcases List.mem_append.1 ht with ht | ht
     ·refine hv _ ?_
      rw [← h2,jH]
      exact List.mem_map.2 ⟨t,ht,rfl⟩
     ·refine hN _ ?_
      rw [← h3]
      have:=uX (ρ:=bQ [] [] new H1) (τ:=bV (ys ++ [⟨[],[]⟩])) (g:=fun _=>0) (new.map (aX H1))
      rw [List.map_map] at this
      rw [show (fun o=>Option.map (aT (bQ [] [] new H1) (bV (ys ++ [⟨[],[]⟩])) 0) (aX H1 o)) = ((fun x:Option Obj=>x.map fun ob=>aT (bQ [] [] new H1) (bV (ys ++ [⟨[],[]⟩])) 0 ob) ∘ aX H1) from rfl,this]
      exact List.mem_map.2 ⟨t,ht,rfl⟩
    have hk:∀ t ∈ tags u ++ ay (new.map (aX H1)),dU (xs ++ [⟨[],[]⟩]) t = some 0∧dM (xs ++ [⟨[],[]⟩]) t = []:=by
     intro t ht
     have hb0:=hz t ht
     have hs:=List.all_eq_true.1 hu t ht
     by_cases ht0:t = 0
     ·subst ht0
      exact ⟨rfl,rfl⟩
     ·unfold bV at hb0
      unfold dU at hb0 hs ⊢
      unfold dM
      rw [if_neg ht0] at hb0 hs ⊢
      rw [if_neg ht0]
      by_cases hlt:t - 1 < ys.length
      ·rw [List.getElem?_append_left hlt,List.getElem?_eq_getElem hlt] at hb0 hs
       simp only at hb0 hs
       obtain ⟨x,q1,q2,q3,q4⟩:=k3 (t - 1) _ (List.getElem?_eq_getElem hlt)
       rw [List.getElem?_append_left (by omega),q1]
       simp only
       have hnil:(ys[t - 1]).tags = []:=by
        apply Classical.byContradiction
        intro hne
        have:=sV (t:=0 + (t - 1) + 1) (by omega) q2 hne
        rw [this] at hb0
        simp at hb0
       obtain ⟨q5,q6⟩:=q4 hnil
       rw [q5,q6]
       exact ⟨rfl,rfl⟩
      ·by_cases hlt2:t - 1 = ys.length
       ·have e:(xs ++ [(⟨[],[]⟩:fC)])[t - 1]? = some ⟨[],[]⟩:=by
         rw [List.getElem?_append_right (by omega),hlt2,k2]
         simp
        rw [e]
        exact ⟨rfl,rfl⟩
       ·have e:(ys ++ [(⟨[],[]⟩:fC)])[t - 1]? = none:=by
         rw [List.getElem?_eq_none]
         simp
         omega
        rw [e] at hs
        cases hs
    have hu':((tags u ++ ay (new.map (aX H1))).all fun t=>(dU (xs ++ [⟨[],[]⟩]) t).isSome) = true:=List.all_eq_true.2 fun t ht=>by rw [(hk t ht).1];rfl
    rw [if_pos hu']
    have hfl:(tags u ++ ay (new.map (aX H1))).flatMap (dM (xs ++ [⟨[],[]⟩])) = []:=List.flatMap_eq_nil_iff.2 fun t ht=>(hk t ht).2
    rw [hfl]
    simp only [List.filter_nil,strike,bW,Option.some.injEq,Prod.mk.injEq]
    have Gw:∀ o g,bQ H [] new H1 o g = (bQ [] [] new H1 o g).map fun x=>(x.1 + H.length,x.2):=by
     intro o g
     unfold bQ
     split
     ·have:=wR new o 0 H.length
      rw [Nat.zero_add] at this
      simp [this,Option.map_map,Function.comp_def]
     ·rfl
    have hτ:∀ t ∈ tags u ++ ay (new.map (aX H1)),bV (xs ++ [⟨[],[]⟩]) t = bV (ys ++ [⟨[],[]⟩]) t:=fun t ht=>by
     rw [hz t ht]
     unfold bV
     rw [(hk t ht).1]
     rfl
    refine ⟨?_,?_⟩
    ·rw [← h2,← qG Gw u]
     exact gX u (fun _ _ _=>rfl) fun t ht=>hτ t (List.mem_append_left _ ht)
    ·rw [← h3]
     congr 1
     simp only [kG,List.map_map]
     refine List.map_congr_left fun o ho=>?_
     simp only [Function.comp]
     cases hob:aX H1 o with
     | none=>rfl
     | some ob =>
      have hmem:some (aT (bQ [] [] new H1) (bV (ys ++ [⟨[],[]⟩])) 0 ob) ∈ N:=by
       rw [← h3]
       exact List.mem_map.2 ⟨o,ho,by rw [hob];rfl⟩
      obtain ⟨c1,c2⟩:=Fq hcN hmem
      simp only [aT] at c1 c2
      have e1:=qG (τ:=bV (ys ++ [⟨[],[]⟩])) Gw ob.p
      simp only [dh] at e1
      have e2:ren (bQ H [] new H1) (bV (xs ++ [⟨[],[]⟩])) ob.p = ren (bQ H [] new H1) (bV (ys ++ [⟨[],[]⟩])) ob.p:=by
       refine gX ob.p (fun _ _ _=>rfl) fun t ht=>?_
       have:bV (ys ++ [⟨[],[]⟩]) t = 0:=c2 _ (by rw [jH];exact List.mem_map.2 ⟨t,ht,rfl⟩)
       rw [this,kz t this]
      simp only [Option.map_some,aT,Option.some.injEq]
      rw [← e1,e2,kz _ c1,c1]
   ·cases h1
 ·cases h1
def Am (C:Ctx) (S:Nat→List AV→Option (AV × Heap)):Cf:=fun f args H =>
 match aG C f H 0 args with
 | some (as,_)=>if (aA as).isEmpty then match S f as with
   | some (v,N)=>if (wu v && qP N) = true then some (dh H.length v,H ++ kG H.length N) else none
   | none=>none
  else none
 | none=>none
theorem wS {S:Nat→List AV→Option (AV × Heap)} (hS:∀ f as v N,S f as = some (v,N)→Ev1 C f as [] (v,N)):Below C (Am C S):=by
 intro f args H r h
 unfold Am at h
 split at h
 ·rename_i as xs hl
  split at h
  ·rename_i hi
   split at h
   ·rename_i v N hs
    split at h
    ·rename_i hc
     simp only [Bool.and_eq_true] at hc
     rw [← Option.some.inj h]
     exact Ev1.Ze (hS f as v N hs) hl (List.isEmpty_iff.1 hi) hc.1 hc.2
    ·cases h
   ·cases h
  ·cases h
 ·cases h
def abN (L:List Row1) (f:Nat) (as:List AV):Option (AV × Heap):=(L.find? fun e=>e.f == f && eqL e.args as).map fun e=>(e.res,e.N)
def rowT (C:Ctx) (L:List Row1):Cf:=fun f args H=>if (L.any fun e=>e.f == f) then Am C (abN L) f args H else none
theorem EM {L:List Row1} (h:kJ C L):Below C (rowT C L):=by
 intro f args H r hr
 unfold rowT at hr
 split at hr
 ·refine wS (fun f as v N hs=>?_) f args H r hr
  unfold abN at hs
  obtain ⟨e,he,h1⟩:=Option.map_eq_some_iff.1 hs
  simp only [Prod.mk.injEq] at h1
  obtain ⟨rfl,rfl⟩:=h1
  have h3:=List.find?_some he
  simp only [Bool.and_eq_true,beq_iff_eq] at h3
  rw [← h3.1,← yU _ _ h3.2]
  exact (h e (List.mem_of_find?_eq_some he)).1
 ·cases hr
end
def jG (id:Nat) (o:Out):Out:=match o.ex with
 | .exit i=>if i = id then ⟨.normal,o.fr,o.H⟩ else o
 | _=>o
section
variable {C:Ctx} {T:Cf} {f m:Nat} {fr:Frame} {H:Heap} {out:Out}
theorem Run.block' {id:Nat} {c:Code} {o:Out} (h:Run C T f m c fr H o):Run C T f m (.block id c) fr H (jG id o):=by
 obtain ⟨ex,fr',H'⟩:=o
 cases ex with
 | normal=>exact Run.block h (fun e=>by cases e)
 | ret=>exact Run.block h (fun e=>by cases e)
 | exit i =>
  by_cases hi:i = id
  ·subst hi
   simp only [jG,if_true]
   exact Run.iP h
  ·simp only [jG,hi,if_false]
   exact Run.block h (by simpa using hi)
theorem Run.seq' {a b:Code} {o:Out} (h:Run C T f m a fr H o) (h1:∀ fr' H',o = ⟨.normal,fr',H'⟩→Run C T f m b fr' H' out) (h2:o.ex ≠ .normal→o = out):Run C T f m (.seq a b) fr H out:=by
 obtain ⟨ex,fr',H'⟩:=o
 cases ex with
 | normal=>exact Run.seq h (h1 fr' H' rfl)
 | ret=>have:=h2 (by simp);subst this;exact Run.bH h (by simp)
 | exit i=>have:=h2 (by simp);subst this;exact Run.bH h (by simp)
end
end Go.AM
namespace Go.AM
attribute [go_sem] exec kW Eo mD step fJ aF dV gZ au kM iY ak rP jf rV aZ Em jJ aN tH jQ lenV Gn unV arith Ju zC kU live upd Jt Tn Md Gt retag wL pK rO oH dO eX tags ids scalar aS vF faV fvV Ae Af
end Go.AM
namespace Go.AM
theorem O8 {k:IntKind} (hk:k.signed = false) {n:Int} (h0:0≤n) (h1:n < 2 ^ k.bits):k.wrap n = n:=by
 simp only [IntKind.wrap,hk,Bool.false_and,Bool.false_eq_true,if_false]
 exact Int.emod_eq_of_lt h0 h1
theorem wrap_u8 {n:Int} (h0:0≤n) (h1:n < 256):IntKind.u8.wrap n = n:=O8 rfl h0 (by exact h1)
theorem wrap_u32 {n:Int} (h0:0≤n) (h1:n < 4294967296):IntKind.u32.wrap n = n:=O8 rfl h0 (by exact h1)
theorem wrap_u64 {n:Int} (h0:0≤n) (h1:n < 18446744073709551616):IntKind.u64.wrap n = n:=O8 rfl h0 (by exact h1)
theorem wrap_i64 {n:Int} (h0:-9223372036854775808≤n) (h1:n < 9223372036854775808):IntKind.i64.wrap n = n:=by
 have e1:IntKind.i64.bits = 64:=rfl
 have e2:IntKind.i64.signed = true:=rfl
 simp only [IntKind.wrap,e1,e2,Bool.true_and,decide_eq_true_eq]
 have p64:(2:Int) ^ 64 = 18446744073709551616:=rfl
 have p63:(2:Int) ^ (64 - 1) = 9223372036854775808:=rfl
 rw [p64,p63]
 by_cases hn:0≤n
 ·rw [Int.emod_eq_of_lt hn (by omega),if_neg (by omega)]
 ·have:n % 18446744073709551616 = n + 18446744073709551616:=by omega
  rw [this,if_pos (by omega)]
  omega
end Go.AM
namespace Go.AM
open Go.ChangeShapes Go.WideShapes Go.ChangeAt Go.RowKit
section
variable {H:Type} {enc:TypeId × Value→H} {P:Program} {W:World}
theorem VH {b t:Nat} (hb:b < W.heap.size) (ht:t ≠ 0):NT (start W) (T0 W.heap.size) t b:=⟨.inr ht,xE W b,hb⟩
theorem abO {n:Int} (h:(Lit.int .u8 n).wf = true):0≤n∧n < 256:=by
 have:IntKind.u8.min≤n∧n≤IntKind.u8.max:=by simpa [Lit.wf] using h
 have e1:IntKind.u8.min = 0:=rfl
 have e2:IntKind.u8.max = 255:=rfl
 omega
theorem VI {c:Nat} {l:List UInt8} {ad:Option Addr} {cap:Nat} (hs:DY c l.length ad cap)
  (hc:∀ a,ad = some a→l.length ≠ 0→a.spot = none∧a.block < W.heap.size∧∀ j b,l[j]? = some b→W.cell? ⟨a.block,a.off + j,none⟩ = some (.int .u8 (b.toNat:Int))) :
  aC (start W) (T0 W.heap.size) (.ro c (.pb l) 1) (.slice ad l.length cap):=by
 simp only [aC,aH,aQ,RV]
 refine ⟨ad,cap,rfl,hs,fun a ha hn=>?_⟩
 obtain ⟨h1,h2,h3⟩:=hc a ha hn
 exact ⟨h1,VH h2 (by omega),by simp only [RP];exact h3⟩
theorem XZ {base:Nat} {t:TypeId} {k:IntKind} {v:Value} {d:DataW H} {ps:List MemPlace} (ht:P.underlying t = some (.int k)) (hval:Value.okWide P W .any base t v) (hd:DataW.Trod enc P W 0 (fun _=>true) true t v d ps) :
  ∃ n,(Lit.int k n).wf = true∧aC (start W) (T0 W.heap.size) (.int k n) v:=by
 obtain ⟨n,rfl,_,_,h⟩:=open_int ht hval hd
 exact ⟨n,h,by simp [aC,aH,aQ,RV]⟩
end
end Go.AM
namespace Go.AM
def rt (t:Nat) (p:AV):AV:=ren (fun _ _=>none) (fun _=>t) p
def bk (n t:Nat) (k:Nat):Nat:=if k = n then t else 0
theorem qB {H:Heap} {o:Nat} {ob:Obj} (ho:H[o]? = some (some ob)) (hi:ids ob.p = []):reach H aB [o] [] = [o]:=by
 show reach H (99998 + 1 + 1) [o] [] = [o]
 simp [reach,ho,hi]
theorem O9 {H:Heap} {o o2:Nat} {ob ob2:Obj} (ho:H[o]? = some (some ob)) (hi:ids ob.p = []) (ho2:H[o2]? = some (some ob2)) (hi2:ids ob2.p = []) (hne:o2 ≠ o):reach H aB [o,o2] [] = [o,o2]:=by
 show reach H (99997 + 1 + 1 + 1) [o,o2] [] = [o,o2]
 simp [reach,ho,hi,ho2,hi2,hne]
theorem Pg {p:AV} (h:mX p = true):ids p = []:=by cases p <;> simp [mX] at h <;> rfl
section
variable {C:Ctx} {f:Nat} {H:Heap} {T:Cf}
theorem QT {ρ:Nat→Nat→Option (Nat × Nat)} {τ:Nat→Nat} {p:AV} (h:ids p = []):ids (ren ρ τ p) = []:=by
 have h1:ren ρ τ p = ren (fun o g=>some (o,g)) τ p:=gX p (fun o g ho=>by rw [h] at ho;cases ho) (fun _ _=>rfl)
 rw [h1]
 exact (qX p).trans h
where
 qX:(p:AV)→ids (ren (fun o g=>some (o,g)) τ p) = ids p
  | .ptr .. | .sl .. | .map .. | .ro .. | .iW .. | .top | .bool _ | .int .. | .str _ | .gK | .jD | .iD | .pn | .pb _ | .pi ..=>rfl
  | .agg p=>by simp only [ren,ids];exact qX p
  | .tup l=>by simp only [ren,ids];exact lN l
  | .fn _ l=>by simp only [ren,ids];exact lN l
  | .pc l=>by simp only [ren,ids];exact lN l
  | .pr _ l=>by simp only [ren,ids];exact lN l
  | .pm l=>by simp only [ren,ids];exact lN l
 lN:(l:List AV)→aA (bn (fun o g=>some (o,g)) τ l) = aA l
  | []=>rfl
  | a :: r=>by simp only [bn,aA];rw [qX a,lN r]
theorem Ev1.box (hT:Below C T) {o g:Nat} {ob ob1:Obj} {xs ys:List AV} {aK:List fC} {fn:Func} {c:Code} {out:Out} {l:List AV} {rest:Heap} {n t:Nat}
  (hF:C.P.funcs[f]? = some fn) (hb:fn.body = some c) (hrw:C.rw f 0 = false) (ho:H[o]? = some (some ob)) (hg:ob.g = g) (hi:ids ob.p = [])
  (hl:aG C f H 1 xs = some (ys,aK)) (hiy:aA ys = []) (hob:aK.all (fun x=>disjoint x.objs [o]) = true) (hn:ys.length + 2 = n) (hng:n < dG)
  (hj:dO (dF ob) = some t)
  (he:Run C T f 1 c (numbered 0 (coerce C (.ptr 0 0 0 0 :: ys) (aJ C f))) [some { ob with p:=rt n ob.p,g:=0,tg:=n }] out)
  (hex:out.ex = .normal∨out.ex = .ret) (hr:aP C out.fr out.H fn.results.toList = some l)
  (hH:out.H = some ob1 :: rest) (ZT:ob1.ids = true) (hi1:ids ob1.p = []) (hv:ids (aO l) = [])
  (hu:∀ k ∈ tags (aO l) ++ dF ob1,k = 0∨k = n) (ht1:ob1.tg = 0∨ob1.tg = n) :
  Ev1 C f (.ptr o 0 0 g :: xs) H (ren (fun _ _=>none) (bk n t) (aO l),upd H o (some { ob1 with p:=ren (fun _ _=>none) (bk n t) ob1.p,g:=g + (if ob1.g = 0 then 0 else 1),tg:=bk n t ob1.tg })):=by
 have hlive:live H o g = some ob:=by simp [live,ho,hg]
 have hat:aX H o = some ob:=by simp [aX,ho]
 have hl':aG C f H 0 (.ptr o 0 0 g :: xs) = some (.ptr o 0 0 g :: ys,⟨[],[]⟩ :: aK):=by
  simp only [aG,hrw]
  simp [dS,dN,tags,hl]
 have hre:reach H aB (aA (.ptr o 0 0 g :: ys)) [] = [o]:=by
  rw [show aA (.ptr o 0 0 g :: ys) = [o] by simp [aA,ids,hiy]]
  exact qB ho hi
 have hin:dH H [o] o g = some (0,0):=by simp [dH,hlive,idxOf]
 have hlen:=qh hl
 have hn0:0 < n:=by omega
 refine Ev1.of (out:=out) (l:=l) hT hF hb hl' ?_ ?_ hex hr ?_
 ·rw [hre]
  simp only [List.all_cons,Bool.and_eq_true,decide_eq_true_eq,List.length_cons]
  exact ⟨⟨rfl,hob⟩,by omega⟩
 ·rw [hre]
  have e1:bn (dH H [o]) (fun t=>t) (.ptr o 0 0 g :: ys) = .ptr 0 0 0 0 :: ys:=by
   simp only [bn,ren,hin]
   rw [fE ys hiy (fun _ _=>rfl)]
  have e2:([o].map fun o'=>(aX H o').map (aT (dH H [o]) (fun _=>(AV.ptr o 0 0 g :: ys).length + 1) 0)) = [some { ob with p:=rt n ob.p,g:=0,tg:=n }]:=by
   simp only [List.map_cons,List.map_nil,hat,Option.map_some,aT,List.length_cons]
   rw [show ys.length + 1 + 1 = n by omega]
   have e:ren (dH H [o]) (fun _=>n) ob.p = rt n ob.p:=gX ob.p (fun o g h=>by rw [hi] at h;cases h) (fun _ _=>rfl)
   rw [e]
  rw [e1,e2]
  exact he
 ·rw [hre]
  unfold wrap
  have h0:out.H[0]? = some (some ob1):=by rw [hH];rfl
  have EI:aX out.H 0 = some ob1:=by simp [aX,h0]
  have ZU:reach out.H aB (List.range [o].length ++ ids (aO l)) [] = [0]:=by
   rw [hv]
   exact qB h0 hi1
  have hbt:∀ k,k = 0∨k = n→dU (⟨[],[]⟩ :: aK ++ [⟨[],ay ([o].map (aX H))⟩]) k = some (bk n t k):=by
   rintro k (rfl | rfl)
   ·unfold dU bk
    rw [if_pos rfl,if_neg (by omega)]
   ·unfold dU bk
    rw [if_neg (by omega),if_pos rfl]
    rw [List.cons_append,show k - 1 = (k - 2) + 1 by omega,List.getElem?_cons_succ,List.getElem?_append_right (by omega),show k - 2 - aK.length = 0 by omega]
    simp [ay,hat,hj]
  have hgo:∀ k,k = 0∨k = n→dM (⟨[],[]⟩ :: aK ++ [⟨[],ay ([o].map (aX H))⟩]) k = []:=by
   rintro k (rfl | rfl)
   ·rfl
   ·unfold dM
    rw [if_neg (by omega)]
    rw [List.cons_append,show k - 1 = (k - 2) + 1 by omega,List.getElem?_cons_succ,List.getElem?_append_right (by omega),show k - 2 - aK.length = 0 by omega]
    rfl
  generalize (⟨[],[]⟩ :: aK ++ [⟨[],ay ([o].map (aX H))⟩]:List fC) = L at *
  have hbT:∀ k,k = 0∨k = n→bV L k = bk n t k:=fun k hk=>by unfold bV;rw [hbt k hk];rfl
  simp only [ZU]
  rw [show ([0].filter fun o'=>decide ([o].length≤o')) = [] from rfl]
  have hus:(tags (aO l) ++ ay ((List.range [o].length).map (aX out.H)) ++ ay (([]:List Nat).map (aX out.H))) = tags (aO l) ++ dF ob1:=by
   simp [ay,EI,List.range_succ]
  rw [hus]
  rw [if_pos (List.all_eq_true.2 fun k hk=>by rw [hbt k (hu k hk)];rfl)]
  rw [show (tags (aO l) ++ dF ob1).flatMap (dM L) = [] from List.flatMap_eq_nil_iff.2 fun k hk=>hgo k (hu k hk)]
  simp only [List.filter_nil,strike,List.map_nil,List.append_nil,bW,EI,Option.map_some,Option.some.injEq,Prod.mk.injEq]
  refine ⟨gX _ (fun o g h=>by rw [hv] at h;cases h) (fun k hk=>hbT k (hu k (List.mem_append_left _ hk))),?_⟩
  have hgb:fG H [o] 0 ob1.g = g + (if ob1.g = 0 then 0 else 1):=by simp [fG,hat,hg]
  rw [hgb]
  congr 2
  simp only [aT]
  rw [hbT _ ht1]
  congr 1
  refine gX _ (fun o g h=>by rw [hi1] at h;cases h) fun k hk=>?_
  unfold dF at hu
  rw [if_pos ZT] at hu
  exact hbT k (hu k (List.mem_append_right _ hk))
theorem Ev1.agu (hT:Below C T) {o g:Nat} {ob ob1:Obj} {xs ys:List AV} {aK:List fC} {fn:Func} {c:Code} {out:Out} {l:List AV} {rest:Heap} {n t o1 g1:Nat} {ob2:Obj}
  (hF:C.P.funcs[f]? = some fn) (hb:fn.body = some c) (hrw:C.rw f 0 = false) (ho:H[o]? = some (some ob)) (hg:ob.g = g) (hi:ids ob.p = [])
  (hl:aG C f H 1 xs = some (ys,aK)) (hiy:aA ys = []) (hob:aK.all (fun x=>disjoint x.objs [o]) = true) (hn:ys.length + 2 = n) (hng:n < dG)
  (hj:dO (dF ob) = some t)
  (he:Run C T f 1 c (numbered 0 (coerce C (.ptr 0 0 0 0 :: ys) (aJ C f))) [some { ob with p:=rt n ob.p,g:=0,tg:=n }] out)
  (hex:out.ex = .normal∨out.ex = .ret) (hr:aP C out.fr out.H fn.results.toList = some l)
  (hH:out.H = some ob1 :: rest) (ZT:ob1.ids = true) (hi1:ids ob1.p = []) (hv:ids (aO l) = [o1]) (ho1:live out.H o1 g1 = some ob2) (hne:o1 ≠ 0) (agv:ob2.ids = false) (hp2:mX ob2.p = true) (abP:ob2.tg = 0)
  (hu:∀ k ∈ tags (aO l) ++ dF ob1,k = 0∨k = n) (ht1:ob1.tg = 0∨ob1.tg = n) :
  Ev1 C f (.ptr o 0 0 g :: xs) H (ren (fun o' g'=>if o' = o1∧g' = g1 then some (H.length,0) else none) (bk n t) (aO l),upd H o (some { ob1 with p:=ren (fun _ _=>none) (bk n t) ob1.p,g:=g + (if ob1.g = 0 then 0 else 1),tg:=bk n t ob1.tg }) ++ [some (AM.fresh ob2)]):=by
 have hlive:live H o g = some ob:=by simp [live,ho,hg]
 have hat:aX H o = some ob:=by simp [aX,ho]
 have hl':aG C f H 0 (.ptr o 0 0 g :: xs) = some (.ptr o 0 0 g :: ys,⟨[],[]⟩ :: aK):=by
  simp only [aG,hrw]
  simp [dS,dN,tags,hl]
 have hre:reach H aB (aA (.ptr o 0 0 g :: ys)) [] = [o]:=by
  rw [show aA (.ptr o 0 0 g :: ys) = [o] by simp [aA,ids,hiy]]
  exact qB ho hi
 have hin:dH H [o] o g = some (0,0):=by simp [dH,hlive,idxOf]
 have hlen:=qh hl
 have hn0:0 < n:=by omega
 refine Ev1.of (out:=out) (l:=l) hT hF hb hl' ?_ ?_ hex hr ?_
 ·rw [hre]
  simp only [List.all_cons,Bool.and_eq_true,decide_eq_true_eq,List.length_cons]
  exact ⟨⟨rfl,hob⟩,by omega⟩
 ·rw [hre]
  have e1:bn (dH H [o]) (fun t=>t) (.ptr o 0 0 g :: ys) = .ptr 0 0 0 0 :: ys:=by
   simp only [bn,ren,hin]
   rw [fE ys hiy (fun _ _=>rfl)]
  have e2:([o].map fun o'=>(aX H o').map (aT (dH H [o]) (fun _=>(AV.ptr o 0 0 g :: ys).length + 1) 0)) = [some { ob with p:=rt n ob.p,g:=0,tg:=n }]:=by
   simp only [List.map_cons,List.map_nil,hat,Option.map_some,aT,List.length_cons]
   rw [show ys.length + 1 + 1 = n by omega]
   have e:ren (dH H [o]) (fun _=>n) ob.p = rt n ob.p:=gX ob.p (fun o g h=>by rw [hi] at h;cases h) (fun _ _=>rfl)
   rw [e]
  rw [e1,e2]
  exact he
 ·rw [hre]
  unfold wrap
  have h0:out.H[0]? = some (some ob1):=by rw [hH];rfl
  have EI:aX out.H 0 = some ob1:=by simp [aX,h0]
  obtain ⟨h1,h2⟩:=bI.1 ho1
  have ZU:reach out.H aB (List.range [o].length ++ ids (aO l)) [] = [0,o1]:=by
   rw [hv]
   exact O9 h0 hi1 h1 (Pg hp2) hne
  have abQ:aX out.H o1 = some ob2:=by simp [aX,h1]
  have hbt:∀ k,k = 0∨k = n→dU (⟨[],[]⟩ :: aK ++ [⟨[],ay ([o].map (aX H))⟩]) k = some (bk n t k):=by
   rintro k (rfl | rfl)
   ·unfold dU bk
    rw [if_pos rfl,if_neg (by omega)]
   ·unfold dU bk
    rw [if_neg (by omega),if_pos rfl]
    rw [List.cons_append,show k - 1 = (k - 2) + 1 by omega,List.getElem?_cons_succ,List.getElem?_append_right (by omega),show k - 2 - aK.length = 0 by omega]
    simp [ay,hat,hj]
  have hgo:∀ k,k = 0∨k = n→dM (⟨[],[]⟩ :: aK ++ [⟨[],ay ([o].map (aX H))⟩]) k = []:=by
   rintro k (rfl | rfl)
   ·rfl
   ·unfold dM
    rw [if_neg (by omega)]
    rw [List.cons_append,show k - 1 = (k - 2) + 1 by omega,List.getElem?_cons_succ,List.getElem?_append_right (by omega),show k - 2 - aK.length = 0 by omega]
    rfl
  generalize (⟨[],[]⟩ :: aK ++ [⟨[],ay ([o].map (aX H))⟩]:List fC) = L at *
  have hbT:∀ k,k = 0∨k = n→bV L k = bk n t k:=fun k hk=>by unfold bV;rw [hbt k hk];rfl
  simp only [ZU]
  rw [show ([0,o1].filter fun o'=>decide ([o].length≤o')) = [o1] by
   simp only [List.length_cons,List.length_nil]
   rw [List.filter_cons_of_neg (by simp),List.filter_cons_of_pos (by simp;omega),List.filter_nil]]
  have hus:(tags (aO l) ++ ay ((List.range [o].length).map (aX out.H)) ++ ay ([o1].map (aX out.H))) = tags (aO l) ++ dF ob1 ++ [0]:=by
   have:dF ob2 = [0]:=by unfold dF;rw [agv,abP];cases hq:ob2.p <;> simp [hq,mX] at hp2 <;> simp
   simp [ay,EI,abQ,this,List.range_succ]
  rw [hus]
  have hu2:∀ k ∈ tags (aO l) ++ dF ob1 ++ [0],k = 0∨k = n:=fun k hk=>by
   rcases List.mem_append.1 hk with hk | hk
   ·exact hu k hk
   ·simp at hk;exact .inl hk
  rw [if_pos (List.all_eq_true.2 fun k hk=>by rw [hbt k (hu2 k hk)];rfl)]
  rw [show (tags (aO l) ++ dF ob1 ++ ([0]:List Nat)).flatMap (dM L) = [] from List.flatMap_eq_nil_iff.2 fun k hk=>hgo k (hu2 k hk)]
  simp only [List.filter_nil,strike,List.map_cons,List.map_nil,bW,EI,abQ,Option.map_some,Option.some.injEq,Prod.mk.injEq]
  have Gw:∀ o' g',o' ∈ [o1]→bQ H [o] [o1] out.H o' g' = if o' = o1∧g' = g1 then some (H.length,0) else none:=by
   intro o' g' hm
   simp only [List.mem_singleton] at hm
   subst hm
   unfold bQ
   by_cases hgg:g' = g1
   ·subst hgg
    rw [ho1]
    have:¬ (o' < [o].length):=by simp;omega
    simp only [if_neg this]
    simp [idxOf]
   ·have:live out.H o' g' = none:=by
     simp only [live,h1]
     rw [if_neg (fun e=>hgg (e.symm.trans h2))]
    rw [this]
    simp [hgg]
  refine ⟨gX _ (fun o' g' h=>Gw o' g' (by rw [← hv];exact h)) (fun k hk=>hbT k (hu k (List.mem_append_left _ hk))),?_⟩
  have hgb:fG H [o] 0 ob1.g = g + (if ob1.g = 0 then 0 else 1):=by simp [fG,hat,hg]
  rw [hgb]
  have e2:aT (bQ H [o] [o1] out.H) (bV L) 0 ob2 = AM.fresh ob2:=by
   simp only [aT,Fj hp2,AM.fresh,abP,hbT 0 (.inl rfl)]
   unfold bk;rw [if_neg (by omega)]
  rw [e2]
  congr 3
  simp only [aT]
  rw [hbT _ ht1]
  congr 1
  refine gX _ (fun o g h=>by rw [hi1] at h;cases h) fun k hk=>?_
  unfold dF at hu
  rw [if_pos ZT] at hu
  exact hbT k (hu k (List.mem_append_right _ hk))
end
end Go.AM
namespace Go.AM
open Classical in
noncomputable def evT (C:Ctx):Cf:=fun f xs H=>if h:∃ r,Ev1 C f xs H r then some (Classical.choose h) else none
theorem Ev1.one {C:Ctx} {f:Nat} {xs:List AV} {H:Heap} {r r2:AV × Heap} (h:Ev1 C f xs H r) (h2:Ev1 C f xs H r2):r = r2:=by
 obtain ⟨n,h⟩:=h
 obtain ⟨n2,h2⟩:=h2
 have e:=h (max n n2) (by omega)
 rw [h2 (max n n2) (by omega)] at e
 exact (Option.some.inj e).symm
theorem bU (C:Ctx):Below C (evT C):=by
 intro f xs H r h
 unfold evT at h
 split at h
 ·rename_i hx
  rw [← Option.some.inj h]
  exact Classical.choose_spec hx
 ·cases h
theorem dX {C:Ctx} {f:Nat} {xs:List AV} {H:Heap} {r:AV × Heap} (h:Ev1 C f xs H r):evT C f xs H = some r:=by
 have hx:∃ r,Ev1 C f xs H r:=⟨r,h⟩
 unfold evT
 rw [dif_pos hx]
 exact congrArg some (Ev1.one (Classical.choose_spec hx) h)
section
variable {C:Ctx} {f:Nat} {H:Heap}
theorem TD {aK:List fC} {v:AV} {H1:Heap} {o g:Nat} {ob:Obj} (hi:ids v = [o]) (ht:tags v = []) (hl:live H1 o g = some ob) (hob:ob.ids = false) (hp:ids ob.p = []) (hp2:tags ob.p = []) (hto:dF ob = [0]) (htg:ob.tg = 0) :
  wrap H [] aK v H1 = some (ren (fun o' g'=>if o' = o∧g' = g then some (H.length,0) else none) (fun t=>t) v,H ++ [some (fresh ob)]):=by
 obtain ⟨h1,h2⟩:=bI.1 hl
 unfold wrap
 have hat:aX H1 o = some ob:=by simp [aX,h1]
 have hρ:ren (bQ H [] [o] H1) (bV aK) v = ren (fun o' g'=>if o' = o∧g' = g then some (H.length,0) else none) (fun t=>t) v:=by
  have key:∀ o' g',o' ∈ ids v→bQ H [] [o] H1 o' g' = if o' = o∧g' = g then some (H.length,0) else none:=by
   intro o' g' hm
   rw [hi] at hm
   simp only [List.mem_singleton] at hm
   subst hm
   unfold bQ
   by_cases hg:g' = g
   ·subst hg
    rw [hl]
    simp [idxOf]
   ·have:live H1 o' g' = none:=by
     simp only [live,h1]
     rw [if_neg (fun e=>hg (e.symm.trans h2))]
    rw [this]
    simp [hg]
  exact gX v (fun o' g' hm=>key o' g' hm) (by simp [ht])
 simp only [List.length_nil,List.range_zero,List.nil_append,hi,Ci h1 hob,ht,ay,List.append_nil,List.map_nil,hat,hto,List.map_cons,Nat.zero_le,decide_true,List.filter_cons_of_pos,List.filter_nil,strike,bW]
 have h0:dU aK 0 = some 0:=rfl
 simp only [List.all_cons,List.all_nil,h0,Option.isSome_some,Bool.and_true,if_true,List.flatMap_cons,List.flatMap_nil,dM,List.append_nil,List.filter_nil,strike,Option.map_some,Option.some.injEq,Prod.mk.injEq]
 refine ⟨hρ,?_⟩
 have hr:ren (bQ H [] [o] H1) (bV aK) ob.p = ob.p:=jc ob.p hp (fun t h=>by rw [hp2] at h;cases h)
 simp only [aT,hr,AM.fresh,htg]
 rfl
variable {T:Cf}
theorem Ev1.ZV (hT:Below C T) {args:List AV} {fn:Func} {c:Code} {as:List AV} {aK:List fC} {out:Out} {l:List AV} {o g:Nat} {ob:Obj}
  (hF:C.P.funcs[f]? = some fn) (hb:fn.body = some c) (hl:aG C f H 0 args = some (as,aK)) (hi:aA as = []) (hn:as.length + 1 < dG)
  (he:Run C T f 0 c (numbered 0 (coerce C as (aJ C f))) [] out) (hex:out.ex = .normal∨out.ex = .ret) (hr:aP C out.fr out.H fn.results.toList = some l)
  (hv:ids (aO l) = [o]) (ht:tags (aO l) = []) (ho:live out.H o g = some ob) (hob:ob.ids = false) (hp:ids ob.p = []) (hp2:tags ob.p = []) (hto:dF ob = [0]) (htg:ob.tg = 0) :
  Ev1 C f args H (ren (fun o' g'=>if o' = o∧g' = g then some (H.length,0) else none) (fun t=>t) (aO l),H ++ [some (AM.fresh ob)]):=by
 refine Ev1.of hT hF hb hl ?_ ?_ hex hr ?_
 ·rw [hi,dK]
  simp only [Bool.and_eq_true,decide_eq_true_eq]
  exact ⟨List.all_eq_true.2 fun x _=>ku x.objs,hn⟩
 ·rw [hi,dK,fE as hi (fun _ _=>rfl)]
  exact he
 ·rw [hi,dK]
  exact TD hv ht ho hob hp hp2 hto htg
end
structure Holds (p:AV) (ob:Obj):Prop where
 p:ob.p = p
 g:ob.g = 0
 row:ob.row = true
 ids:ob.ids = false
 tg:ob.tg = 0
theorem Ev1.tried {C:Ctx} {T:Cf} (hT:Below C T) {n f:Nat} {args:List AV} {v:AV} {N:Heap} (h:Fh C T n ⟨f,args,v,N⟩ = true) (H:Heap):Ev1 C f args H (dh H.length v,H ++ kG H.length N):=by
 have:=kJ.cons hT kJ.nil h
 obtain ⟨h1,h2⟩:=this _ (List.mem_singleton.2 rfl)
 exact Ev1.frame h1 h2 H
theorem Ev1.ZW {C:Ctx} {T:Cf} (hT:Below C T) {n f:Nat} {args:List AV} {v:AV} (h:Fh C T n ⟨f,args,v,[]⟩ = true) (hv:yw v = true) (H:Heap):Ev1 C f args H (v,H):=by
 have:=Ev1.tried hT h H
 rw [show dh H.length v = v from jc v (MQ hv).1 (fun _ _=>rfl)] at this
 simpa [kG] using this
theorem Ev1.each {C:Ctx} {T:Cf} (hT:Below C T) {n f N:Nat} {a v:Nat→AV} (h:(List.range N).all (fun k=>Fh C T n ⟨f,[a k],v k,[]⟩) = true) (hv:∀ k,yw (v k) = true) {k:Nat} (hk:k < N) (H:Heap):Ev1 C f [a k] H (v k,H) :=
 Ev1.ZW hT (List.all_eq_true.1 h k (List.mem_range.2 hk)) (hv k) H
theorem yO (H:Heap) (x:Option Obj):(H ++ [x])[List.length H]? = some x:=by simp
theorem uM (H:Heap) (x y:Option Obj):(H ++ [x]).set (List.length H) y = H ++ [y]:=by simp
def aj (Q:Out→Prop) (C:Ctx) (T:Cf) (f m:Nat) (c:Code) (fr:Frame) (H:Heap):Prop:=∃ o,Q o∧Run C T f m c fr H o
def Goes (P:Frame→Heap→Prop) (o:Out):Prop:=o.ex = .normal∧P o.fr o.H
def Exits (id:Nat) (P:Frame→Heap→Prop) (o:Out):Prop:=o.ex = .exit id∧P o.fr o.H
def qo (P:Frame→Heap→Prop) (o:Out):Prop:=o.ex = .ret∧P o.fr o.H
section
variable {Q:Out→Prop} {C:Ctx} {T:Cf} {f m:Nat} {fr:Frame} {H:Heap}
theorem aj.of {c:Code} {o:Out} (h:Run C T f m c fr H o) (hq:Q o):aj Q C T f m c fr H:=⟨o,hq,h⟩
theorem aj.seq {a b:Code} {fr':Frame} {H':Heap} (h:Run C T f m a fr H ⟨.normal,fr',H'⟩) (h':aj Q C T f m b fr' H'):aj Q C T f m (.seq a b) fr H:=by
 obtain ⟨o,hq,ho⟩:=h'
 exact ⟨o,hq,Run.seq h ho⟩
theorem aj.andThen {a b:Code} {P:Frame→Heap→Prop} (h:aj (Goes P) C T f m a fr H) (h':∀ fr' H',P fr' H'→aj Q C T f m b fr' H'):aj Q C T f m (.seq a b) fr H:=by
 obtain ⟨⟨ex,fr1,H1⟩,⟨he,hp⟩,ho⟩:=h
 simp only at he hp
 subst he
 exact aj.seq ho (h' _ _ hp)
theorem aj.block {id:Nat} {c:Code} {P:Frame→Heap→Prop} (h:aj (Exits id P) C T f m c fr H):aj (Goes P) C T f m (.block id c) fr H:=by
 obtain ⟨⟨ex,fr1,H1⟩,⟨he,hp⟩,ho⟩:=h
 simp only at he hp
 subst he
 exact ⟨_,⟨rfl,hp⟩,Run.iP ho⟩
theorem aj.assoc {a b c:Code} (h:aj Q C T f m (.seq a (.seq b c)) fr H):aj Q C T f m (.seq (.seq a b) c) fr H:=by
 obtain ⟨o,hq,k,hk⟩:=h
 refine ⟨o,hq,k,?_⟩
 simp only [exec] at hk ⊢
 rw [← hk]
 cases ha:exec C T f m k a fr H with
 | none=>rfl
 | some r =>
  obtain ⟨ex,fr',H'⟩:=r
  cases ex with
  | normal=>rfl
  | exit id=>rfl
  | ret=>rfl
theorem aj.tV {id:Nat} {c b:Code} {P:Frame→Heap→Prop} (h:aj (fun o=>Exits id P o∨(o.ex = .ret∧Q o)) C T f m c fr H) (h':∀ fr' H',P fr' H'→aj Q C T f m b fr' H'):aj Q C T f m (.seq (.block id c) b) fr H:=by
 obtain ⟨⟨ex,fr1,H1⟩,hq,ho⟩:=h
 rcases hq with ⟨he,hp⟩ | ⟨he,hq⟩
 ·simp only at he hp
  subst he
  exact aj.seq (Run.iP ho) (h' _ _ hp)
 ·simp only at he
  subst he
  exact ⟨_,hq,Run.bH (Run.block ho (by simp)) (by simp)⟩
theorem aj.loop {c:Code} {σ:Type} (I:σ→Prop) (fr:σ→Frame) (H:σ→Heap) (μ:σ→Nat)
  (step:∀ s,I s→(∃ s',I s'∧Run C T f m c (fr s) (H s) ⟨.normal,fr s',H s'⟩∧μ s' < μ s)∨(∃ o,Q o∧o.ex ≠ .normal∧Run C T f m c (fr s) (H s) o)) (s:σ) (hs:I s) :
  aj Q C T f m (.loop c) (fr s) (H s):=by
 generalize hn:μ s = n
 induction n using Nat.strongRecOn generalizing s with
 | _ n ih =>
  rcases step s hs with ⟨s',h0,h1,h3⟩ | ⟨o,hq,h1,h2⟩
  ·obtain ⟨o,hq,ho⟩:=ih (μ s') (by omega) s' h0 rfl
   exact ⟨o,hq,Run.xO h1 ho⟩
  ·exact ⟨o,hq,Run.Ak h2 h1⟩
end
end Go.AM
namespace Go.AM
def PB (p:AV) (l:List UInt8):Prop:=p = .pb l∨(p = .pn∧l = [])
structure Rw (p:AV) (g:Nat) (ob:Obj):Prop where
 p:ob.p = p
 g:ob.g = g
 row:ob.row = true
 ids:ob.ids = false
 tg:ob.tg = 0
def Byt (H:Heap) (a:AV) (l:List UInt8):Prop :=
 ∃ c p,PB p l∧(c = 0→l = [])∧∀ t,∃ x,dS H t a = some (.ro c p t,x)
theorem PB.ah {p:AV} {l:List UInt8} (h:PB p l):ah p = l.length:=by
 rcases h with rfl | ⟨rfl,rfl⟩ <;> rfl
theorem PB.ids {p:AV} {l:List UInt8} (h:PB p l):ids p = []:=by
 rcases h with rfl | ⟨rfl,rfl⟩ <;> rfl
theorem Byt.ro {H:Heap} {c t:Nat} {p:AV} {l:List UInt8} (h:PB p l) (hc:c = 0→l = []):Byt H (.ro c p t) l :=
 ⟨c,p,h,hc,fun _=>⟨⟨[],[t]⟩,rfl⟩⟩
theorem Byt.nil {H:Heap}:Byt H (.ro 0 .pn 0) []:=Byt.ro (.inr ⟨rfl,rfl⟩) (fun _=>rfl)
theorem Byt.sl {H:Heap} {o off len g:Nat} {ob:Obj} {m l:List UInt8} (ho:H[o]? = some (some ob)) (h:Rw (.pb m) g ob) (hl:(m.drop off).take len = l) (hle:off + len≤m.length):Byt H (.sl o off len g) l:=by
 have hlive:live H o g = some ob:=by simp [live,ho,h.g]
 refine ⟨if ob.z = 0∧AM.ah ob.p = 0 then 0 else 2,.pb l,.inl rfl,fun h0=>?_,fun t=>⟨⟨[o],[ob.tg]⟩,?_⟩⟩
 ·split at h0
  ·rename_i hz
   have hm:m.length = 0:=by have:=hz.2;rw [h.p] at this;exact this
   have:m = []:=List.eq_nil_of_length_eq_zero hm
   subst this
   rw [← hl];simp
  ·cases h0
 ·simp only [dS,dN,hlive,h.ids,h.p,jd]
  rw [if_pos hle,hl]
  rfl
theorem Byt.whole {H:Heap} {o g:Nat} {ob:Obj} {l:List UInt8} (ho:H[o]? = some (some ob)) (h:Rw (.pb l) g ob):Byt H (.sl o 0 l.length g) l :=
 Byt.sl ho h (by simp) (by omega)
section
variable {C:Ctx} {f:Nat} {H:Heap}
theorem LU {i:Nat} {a:AV} {l:List UInt8} {r as:List AV} {xs:List fC} (hrw:C.rw f i = false) (h:Byt H a l) (hr:aG C f H (i + 1) r = some (as,xs)) :
  ∃ c p x,PB p l∧(c = 0→l = [])∧aG C f H i (a :: r) = some (.ro c p (i + 1) :: as,x :: xs):=by
 obtain ⟨c,p,hp,hc,hl⟩:=h
 obtain ⟨x,hx⟩:=hl (i + 1)
 exact ⟨c,p,x,hp,hc,by simp only [aG,hrw,hx,hr]⟩
theorem OJ {T e:Nat} (hT:und C T = .slice e) (he:und C e = .int .u8) (hs:sizeT C e = 1) (hb:bG C e = 1) (hz:bM C e = true) {o g:Nat} {ob:Obj} {l m:List UInt8} {src:AV}
  (ho:H[o]? = some (some ob)) (h:Rw (.pb l) g ob) (hsrc:lV H src = some (.pb m,0)∨(lV H src = some (.pn,0)∧m = [])) (hn:l.length + m.length≤100000000) :
  ∃ ob',Rw (.pb (l ++ m)) (g + 1) ob'∧dw C H T (.sl o 0 l.length g) src = some (.sl o 0 (l.length + m.length) (g + 1),upd H o (some ob')):=by
 have hlive:live H o g = some ob:=by simp [live,ho,h.g]
 have hroom:fP C e (l.length + m.length) = true:=by simp [fP,hb];omega
 obtain ⟨p,hp1,hp2⟩:∃ p,lV H src = some (p,0)∧PB p m:=by
  rcases hsrc with h1 | ⟨h1,h2⟩
  ·exact ⟨_,h1,.inl rfl⟩
  ·exact ⟨_,h1,.inr ⟨rfl,h2⟩⟩
 have hpl:=hp2.ah
 have hpa:rE (.pb l) p = some (.pb (l ++ m)):=by
  rcases hp2 with rfl | ⟨rfl,rfl⟩
  ·rfl
  ·simp [rE]
 refine ⟨{ ob with p:=.pb (l ++ m),g:=g + 1,cap:=(match ob.cap with | some c=>if 0 + l.length + AM.ah p≤c then some (c - 0) else none | none=>none),z:=(if AM.ah ob.p = 0 then ob.z else 1),tg:=0 },⟨rfl,rfl,h.row,h.ids,rfl⟩,?_⟩
 unfold dw
 simp only [hT,hs,hz,hp1,hlive,h.row,h.ids,h.p,h.tg]
 simp only [show ¬ ((1:Nat) = 0∨true = false) by simp,if_false]
 have hc:True∧True∧0 + l.length = AM.ah (.pb l)∧aN (.pb l) = 1∧fP C e (l.length + AM.ah p) = true:=⟨trivial,trivial,by simp [AM.ah],rfl,by rw [hpl];exact hroom⟩
 rw [if_pos hc]
 simp only [jd,Nat.zero_add,Nat.le_refl,if_true,List.drop_zero,List.take_length,hpa,eX,aN]
 simp [hpl]
 rfl
end
section
variable {C:Ctx} {f:Nat} {H:Heap} {T:Cf}
theorem lq {l:List AV} (h:eU l = true):ids (aO l) = aA l:=by
 unfold aO
 split
 ·simp [aA]
 ·rw [if_pos h];rfl
theorem jW {l:List AV} (h:eU l = true):tags (aO l) = aU l:=by
 unfold aO
 split
 ·simp [aU]
 ·rw [if_pos h];rfl
theorem y8 {ρ:Nat→Nat→Option (Nat × Nat)} {τ:Nat→Nat} {v w:AV} {rest:List AV} (hv:ren ρ τ v = w) (hr:bn ρ τ rest = rest) (h:eU (v :: rest) = true) (h2:eU (w :: rest) = true):ren ρ τ (aO (v :: rest)) = aO (w :: rest):=by
 cases rest with
 | nil=>exact hv
 | cons a r =>
  show ren ρ τ (if eU (v :: a :: r) then .tup (v :: a :: r) else .top) = (if eU (w :: a :: r) then .tup (w :: a :: r) else .top)
  rw [if_pos h,if_pos h2]
  show AV.tup (ren ρ τ v :: bn ρ τ (a :: r)) = _
  rw [hv,hr]
theorem Ev1.Ve (hT:Below C T) {args xs:List AV} {aK:List fC} {fn:Func} {c:Code} {n:Nat} {l:List UInt8} {rest:List AV}
  (hF:C.P.funcs[f]? = some fn) (hb:fn.body = some c) (hl:aG C f H 0 args = some (xs,aK)) (hi:aA xs = []) (hn:xs.length + 1 < dG) (hri:aA rest = []) (hrt:aU rest = []) (hnt:eU rest = true)
  (h:aj (qo fun fr H1=>∃ o g ob,aP C fr H1 fn.results.toList = some (.sl o 0 n g :: rest)∧H1[o]? = some (some ob)∧Rw (.pb l) g ob) C T f 0 c (numbered 0 (coerce C xs (aJ C f))) []) :
  ∃ ob',Rw (.pb l) 0 ob'∧Ev1 C f args H (aO (.sl H.length 0 n 0 :: rest),H ++ [some ob']):=by
 obtain ⟨⟨ex,fr,H1⟩,⟨he,o,g,ob,hr,ho,hw⟩,hrun⟩:=h
 simp only at he hr ho
 subst he
 refine ⟨AM.fresh ob,⟨hw.p,rfl,hw.row,hw.ids,rfl⟩,?_⟩
 have:=Ev1.fresh (H:=H) hT hF hb hl hi hn hrun (.inr rfl) hr (o:=o) (g:=g) (ob:=ob) (by rw [lq (l:=.sl o 0 n g :: rest) hnt];simp [aA,ids,hri]) (by rw [jW (l:=.sl o 0 n g :: rest) hnt];simp [aU,tags,hrt]) (by simp [live,ho,hw.g]) hw.ids (by rw [hw.p];rfl) hw.tg
 rw [y8 (w:=.sl H.length 0 n 0) (by simp [ren]) (fE rest hri (fun t ht=>rfl)) (by exact hnt) (by exact hnt)] at this
 exact this
theorem Ev1.wG (hT:Below C T) {args xs:List AV} {aK:List fC} {fn:Func} {c:Code} {l:List AV}
  (hF:C.P.funcs[f]? = some fn) (hb:fn.body = some c) (hl:aG C f H 0 args = some (xs,aK)) (hi:aA xs = []) (hn:xs.length + 1 < dG) (hri:aA l = []) (hrt:aU l = []) (hnt:eU l = true)
  (h:aj (qo fun fr H1=>aP C fr H1 fn.results.toList = some l) C T f 0 c (numbered 0 (coerce C xs (aJ C f))) []):Ev1 C f args H (aO l,H):=by
 obtain ⟨⟨ex,fr,H1⟩,⟨he,hr⟩,hrun⟩:=h
 simp only at he hr
 subst he
 exact Ev1.plain hT hF hb hl hi hn hrun (.inr rfl) hr (by rw [lq hnt];exact hri) (by rw [jW hnt];exact hrt)
end
section
variable {C:Ctx} {T:Cf} {f m:Nat} {fr fr' fr2:Frame} {H H':Heap} {ms:List Mark}
theorem Run.dy {id:Nat} {ops:Array Oper} {l:List Nat} (hdy:C.dy f id = true) (hk:C.keep f id = some l) (hn:C.norm f id = false)
  (h:jS C T (gu C f) ops ops.toList fr H = some (fr',H',ms)) (hm:xC (Region.before ops) ms = true) (hf:aZ l fr' = fr2):Run C T f m (.region id ops true) fr H ⟨.normal,fr2,H'⟩:=by
 refine ⟨0,?_⟩
 simp only [exec,hdy,Bool.true_and,if_true,h,hm,iY,hk,hn,hf]
 rfl
end
section
variable {C:Ctx} {f:Nat} {H:Heap} {T:Cf}
end
end Go.AM
namespace Go.AM
open Go.ChangeShapes Go.WideShapes Go.ChangeAt Go.RowKit
section
variable {H:Type} {enc:TypeId × Value→H} {P:Program} {W:World}
theorem Ph {base:Nat} {t e:TypeId} {v:Value} {d:DataW H} {ps:List MemPlace} (ht:P.underlying t = some (.slice e)) (he:P.underlying e = some (.int .u8)) (hc:P.cellsOf e = 1)
  (hval:Value.okWide P W .any base t v) (hd:DataW.Trod enc P W 0 (fun _=>true) true t v d ps) :
  ∃ (c:Nat) (l:List UInt8),(c = 0→l = [])∧l.length≤maxLen∧aC (start W) (T0 W.heap.size) (.ro c (.pb l) 1) v:=by
 obtain ⟨a0,len0,cap0,rfl⟩:=okWide_slice ht hval
 obtain ⟨fuel,hf⟩:=hd
 rcases Go.ChangeShapes.open_ints ht he hc hf with ⟨hcs,_⟩ | ⟨a,len,cap,zs,hcs,_,hlc,hcm,hzl,_,hcell,hwf⟩
 ·simp [Value.cells] at hcs
  obtain ⟨rfl,rfl,rfl⟩:=hcs
  exact ⟨0,[],fun _=>rfl,by simp,VI (l:=[]) ⟨Nat.le_refl _,fun _=>⟨rfl,rfl⟩,fun h=>absurd rfl h,fun h=>by simp at h⟩ (fun a ha=>by cases ha)⟩
 ·simp [Value.cells] at hcs
  obtain ⟨rfl,rfl,rfl⟩:=hcs
  simp only [if_true] at hzl
  have hlen:((zs.take len0).map fun n=>UInt8.ofNat n.toNat).length = len0:=by simp;omega
  refine ⟨2,((zs.take len0).map fun n=>UInt8.ofNat n.toNat),(fun h=>by cases h),by rw [hlen];omega,?_⟩
  have:=VI (W:=W) (c:=2) (l:=(zs.take len0).map fun n=>UInt8.ofNat n.toNat) (ad:=some a) (cap:=cap0) ⟨by rw [hlen];exact hlc,fun h=>by simp at h,fun _=>rfl,fun h=>by simp at h⟩ (by
   intro a' ha' hn
   simp only [Option.some.injEq] at ha'
   subst ha'
   rw [hlen] at hn
   have h0:=hcell 0 (by omega)
   have hsp:a.spot = none:=by
    have:=World.cell?_spot h0
    simpa [Addr.add] using this
   obtain ⟨b,off,spot⟩:=a
   simp only at hsp
   subst hsp
   refine ⟨rfl,?_,fun j x hx=>?_⟩
   ·rw [add_plain] at h0
    exact block_lt_of_cell h0
   ·rw [List.getElem?_map] at hx
    cases hz:(zs.take len0)[j]? with
    | none=>rw [hz] at hx;cases hx
    | some z =>
     rw [hz] at hx
     simp only [Option.map_some,Option.some.injEq] at hx
     have hjl:j < len0:=by
      have:=(List.getElem?_eq_some_iff.1 hz).1
      simp at this
      omega
     rw [List.getElem?_take_of_lt hjl] at hz
     have abR:=List.mem_of_getElem? hz
     obtain ⟨q1,q2⟩:=abO (hwf z abR)
     have:=hcell j (by omega)
     rw [add_plain] at this
     rw [this,List.getD_eq_getElem?_getD,hz,Option.getD_some,← hx]
     have:((UInt8.ofNat z.toNat).toNat:Int) = z:=by
      rw [UInt8.toNat_ofNat',Nat.mod_eq_of_lt (by simp;omega)]
      omega
     rw [this])
  rw [hlen] at this
  exact this
theorem nat_wf {k:IntKind} (hk:k.signed = false) {n:Int} (h:(Lit.int k n).wf = true):∃ m:Nat,n = (m:Int)∧m < 2 ^ k.bits:=by
 have h1:k.min≤n∧n≤k.max:=by simpa [Lit.wf] using h
 cases k <;> simp [IntKind.signed] at hk <;> simp only [IntKind.min,IntKind.max,IntKind.signed,IntKind.bits] at h1 ⊢ <;> exact ⟨n.toNat,by simp at h1;omega,by simp at h1;omega⟩
end
end Go.AM
namespace Go.AM
section
variable {C:Ctx} {f:Nat} {H:Heap} {T:Cf}
theorem Byt.part {o off len g:Nat} {ob:Obj} {m l:List UInt8} (ho:H[o]? = some (some ob)) (hg:ob.g = g) (hp:ob.p = .pb m) (hi:ob.ids = false) (hl:(m.drop off).take len = l) (hle:off + len≤m.length):Byt H (.sl o off len g) l:=by
 have hlive:live H o g = some ob:=by simp [live,ho,hg]
 refine ⟨if ob.z = 0∧AM.ah ob.p = 0 then 0 else 2,.pb l,.inl rfl,fun h0=>?_,fun t=>⟨⟨[o],[ob.tg]⟩,?_⟩⟩
 ·split at h0
  ·rename_i hz
   have hm:m.length = 0:=by have:=hz.2;rw [hp] at this;exact this
   have:m = []:=List.eq_nil_of_length_eq_zero hm
   subst this
   rw [← hl];simp
  ·cases h0
 ·simp only [dS,dN,hlive,hi,hp,jd]
  rw [if_pos hle,hl]
  rfl
end
end Go.AM
namespace Go.AM
section
variable {C:Ctx} {f:Nat} {H:Heap} {T:Cf}
structure RwT (p:AV) (g t:Nat) (ob:Obj):Prop where
 p:ob.p = p
 g:ob.g = g
 row:ob.row = true
 ids:ob.ids = false
 tg:ob.tg = t
theorem JE {T e:Nat} (hT:und C T = .slice e) (he:und C e = .int .u8) (hs:sizeT C e = 1) (hb:bG C e = 1) (hz:bM C e = true) {o g t:Nat} {ob:Obj} {l m:List UInt8} {src:AV}
  (ho:H[o]? = some (some ob)) (h:RwT (.pb l) g t ob) (hsrc:lV H src = some (.pb m,0)∨(lV H src = some (.pn,0)∧m = [])) (hn:l.length + m.length≤100000000) :
  ∃ ob',RwT (.pb (l ++ m)) (g + 1) t ob'∧dw C H T (.sl o 0 l.length g) src = some (.sl o 0 (l.length + m.length) (g + 1),upd H o (some ob')):=by
 have hlive:live H o g = some ob:=by simp [live,ho,h.g]
 have hroom:fP C e (l.length + m.length) = true:=by simp [fP,hb];omega
 obtain ⟨p,hp1,hp2⟩:∃ p,lV H src = some (p,0)∧PB p m:=by
  rcases hsrc with h1 | ⟨h1,h2⟩
  ·exact ⟨_,h1,.inl rfl⟩
  ·exact ⟨_,h1,.inr ⟨rfl,h2⟩⟩
 have hpl:=hp2.ah
 have hpa:rE (.pb l) p = some (.pb (l ++ m)):=by
  rcases hp2 with rfl | ⟨rfl,rfl⟩
  ·rfl
  ·simp [rE]
 have hj:eX t 0 = some t:=by
  unfold eX
  by_cases h0:t = 0
  ·rw [if_pos h0,h0]
  ·rw [if_neg h0,if_pos (.inl rfl)]
 refine ⟨{ ob with p:=.pb (l ++ m),g:=g + 1,cap:=(match ob.cap with | some c=>if 0 + l.length + AM.ah p≤c then some (c - 0) else none | none=>none),z:=(if AM.ah ob.p = 0 then ob.z else 1),tg:=t },⟨rfl,rfl,h.row,h.ids,rfl⟩,?_⟩
 unfold dw
 simp only [hT,hs,hz,hp1,hlive,h.row,h.ids,h.p,h.tg]
 simp only [show ¬ ((1:Nat) = 0∨true = false) by simp,if_false]
 have hc:True∧True∧0 + l.length = AM.ah (.pb l)∧aN (.pb l) = 1∧fP C e (l.length + AM.ah p) = true:=⟨trivial,trivial,by simp [AM.ah],rfl,by rw [hpl];exact hroom⟩
 rw [if_pos hc]
 simp only [jd,Nat.zero_add,Nat.le_refl,if_true,List.drop_zero,List.take_length,hpa,hj,aN]
 simp [hpl]
 rfl
theorem RwT.rw {p:AV} {g:Nat} {ob:Obj} (h:RwT p g 0 ob):Rw p g ob:=⟨h.p,h.g,h.row,h.ids,h.tg⟩
end
end Go.AM
namespace Go.AM
section
variable {Q Q':Out→Prop} {C:Ctx} {T:Cf} {f m:Nat} {fr:Frame} {H:Heap}
theorem aj.mono {c:Code} (h:aj Q C T f m c fr H) (hq:∀ o,Q o→Q' o):aj Q' C T f m c fr H:=by
 obtain ⟨o,h1,h2⟩:=h
 exact ⟨o,hq o h1,h2⟩
theorem aj.kF {c:Code} (I:Nat→Frame→Heap→Prop)
  (step:∀ k fr H,I k fr H→aj (fun o=>(o.ex = .normal∧∃ k',k' < k∧I k' o.fr o.H)∨(o.ex ≠ .normal∧Q o)) C T f m c fr H) {k:Nat} (h:I k fr H) :
  aj Q C T f m (.loop c) fr H:=by
 induction k using Nat.strongRecOn generalizing fr H with
 | _ k ih =>
  obtain ⟨⟨ex,fr1,H1⟩,hq,hr⟩:=step k fr H h
  rcases hq with ⟨he,k',hk,hi⟩ | ⟨he,hq⟩
  ·simp only at he hi
   subst he
   obtain ⟨o,hq,ho⟩:=ih k' hk hi
   exact ⟨o,hq,Run.xO hr ho⟩
  ·exact ⟨_,hq,Run.Ak hr he⟩
theorem aj.yQ {a b:Code} (h:aj Q C T f m a fr H) (hq:∀ o,Q o→o.ex ≠ .normal):aj Q C T f m (.seq a b) fr H:=by
 obtain ⟨o,h1,h2⟩:=h
 exact ⟨o,h1,Run.bH h2 (hq o h1)⟩
theorem aj.blk {id:Nat} {c:Code} (h:aj Q C T f m c fr H) (hq:∀ o,Q o→o.ex ≠ .exit id):aj Q C T f m (.block id c) fr H:=by
 obtain ⟨o,h1,h2⟩:=h
 exact ⟨o,h1,Run.block h2 (hq o h1)⟩
def Or2 (P:Frame→Heap→Prop) (Q:Out→Prop) (o:Out):Prop:=(o.ex = .normal∧P o.fr o.H)∨(o.ex ≠ .normal∧Q o)
theorem aj.or {a b:Code} {P:Frame→Heap→Prop} (h:aj (Or2 P Q) C T f m a fr H) (h':∀ fr' H',P fr' H'→aj Q C T f m b fr' H'):aj Q C T f m (.seq a b) fr H:=by
 obtain ⟨⟨ex,fr1,H1⟩,hq,hr⟩:=h
 rcases hq with ⟨he,hp⟩ | ⟨he,hq⟩
 ·simp only at he hp
  subst he
  exact aj.seq hr (h' _ _ hp)
 ·exact ⟨_,hq,Run.bH hr he⟩
theorem aj.goes {c:Code} {P:Frame→Heap→Prop} (h:aj (Goes P) C T f m c fr H):aj (Or2 P Q) C T f m c fr H:=h.mono fun _ h=>.inl h
theorem aj.yt {c:Operand} {a b:Code} (hc:aF C fr c = .bool true) (h:aj Q C T f m a fr H):aj Q C T f m (.cond c a b) fr H:=by
 obtain ⟨o,hq,ho⟩:=h
 exact ⟨o,hq,Run.cond (d:=true) hc ho⟩
theorem aj.abS {c:Operand} {a b:Code} (hc:aF C fr c = .bool false) (h:aj Q C T f m b fr H):aj Q C T f m (.cond c a b) fr H:=by
 obtain ⟨o,hq,ho⟩:=h
 exact ⟨o,hq,Run.cond (d:=false) hc ho⟩
theorem aj.Jl {id:Nat} {c:Code} {P:Frame→Heap→Prop} (h:aj (fun o=>Exits id P o∨(o.ex = .ret∧Q o)) C T f m c fr H):aj (Or2 P Q) C T f m (.block id c) fr H:=by
 obtain ⟨⟨ex,fr1,H1⟩,hq,hr⟩:=h
 rcases hq with ⟨he,hp⟩ | ⟨he,hq⟩
 ·simp only at he hp
  subst he
  exact ⟨_,.inl ⟨rfl,hp⟩,Run.iP hr⟩
 ·simp only at he
  subst he
  exact ⟨_,.inr ⟨by simp,hq⟩,Run.block hr (by simp)⟩
end
def aI:List Nat→Code→Option Code
 | [],c=>some c
 | 0 :: r,.seq a _=>aI r a
 | _ :: r,.seq _ b=>aI r b
 | 0 :: r,.cond _ a _=>aI r a
 | _ :: r,.cond _ _ b=>aI r b
 | _ :: r,.block _ c=>aI r c
 | _ :: r,.loop c=>aI r c
 | _,_=>none
theorem piece {O:Option Code} {P:Code→Prop} (h:∃ code,O = some code∧P code) (code':Code) (h':O = some code'):P code':=by
 obtain ⟨c,h1,h2⟩:=h
 rw [h'] at h1
 exact (Option.some.inj h1) ▸ h2
def orB (y:UInt8) (j:Nat):UInt8:=UInt8.ofNat (y.toNat ||| 2 ^ j)
theorem TF {y:UInt8} {j:Nat} (hj:j < 8):(orB y j).toNat = y.toNat ||| 2 ^ j:=by
 unfold orB
 have h1:=y.toNat_lt
 have h2:2 ^ j < 2 ^ 8:=Nat.pow_lt_pow_right (by omega) hj
 have h3:y.toNat ||| 2 ^ j < 2 ^ 8:=Nat.or_lt_two_pow h1 h2
 rw [UInt8.toNat_ofNat',Nat.mod_eq_of_lt h3]
theorem or_bit {y:UInt8} {j:Nat} (hj:j < 8):IntKind.u8.wrap ((bits .u8 (y.toNat:Int) ||| bits .u8 ((2 ^ j:Nat):Int)).toNat:Nat) = ((orB y j).toNat:Nat):=by
 have h1:=y.toNat_lt
 have h2:2 ^ j < 2 ^ 8:=Nat.pow_lt_pow_right (by omega) hj
 have h3:y.toNat ||| 2 ^ j < 2 ^ 8:=Nat.or_lt_two_pow h1 h2
 have hb:∀ v:Nat,v < 256→(bits .u8 (v:Int)).toNat = v:=by
  intro v hv
  unfold bits
  simp [IntKind.bits]
  omega
 rw [TF hj,show (bits .u8 (y.toNat:Int) ||| bits .u8 ((2 ^ j:Nat):Int)).toNat = (bits .u8 (y.toNat:Int)).toNat ||| (bits .u8 ((2 ^ j:Nat):Int)).toNat by simp]
 rw [hb _ h1,hb _ h2]
 unfold IntKind.wrap
 simp [IntKind.signed,IntKind.bits]
 omega
end Go.AM
namespace Go.AM
section
variable {C:Ctx} {T:Cf} {f:Nat} {H:Heap}
end
end Go.AM
namespace Go.AM
section
variable {C:Ctx} {T:Cf} {f:Nat} {H:Heap}
end
end Go.AM
namespace Go.AM
section
variable {C:Ctx} {f:Nat} {H:Heap} {T:Cf}
theorem MR {T e es:Nat} (hT:und C T = .slice e) (hs:sizeT C e = es) (hes:es ≠ 0) (hb:bG C e≤4096) (hz:bM C e = true) {o g:Nat} {ob:Obj} {l m:List AV} {src:AV}
  (ho:H[o]? = some (some ob)) (h:Rw (.pr es l) g ob) (hsrc:lV H src = some (.pr es m,0)) (hn:l.length + m.length≤100000000) :
  ∃ ob',Rw (.pr es (l ++ m)) (g + 1) ob'∧dw C H T (.sl o 0 l.length g) src = some (.sl o 0 (l.length + m.length) (g + 1),upd H o (some ob')):=by
 have hlive:live H o g = some ob:=by simp [live,ho,h.g]
 have hroom:fP C e (l.length + m.length) = true:=by
  unfold fP
  have:(l.length + m.length) * bG C e≤100000000 * 4096:=Nat.mul_le_mul hn hb
  exact decide_eq_true ⟨by omega,by omega⟩
 refine ⟨{ ob with p:=.pr es (l ++ m),g:=g + 1,cap:=(match ob.cap with | some c=>if 0 + l.length + AM.ah (.pr es m)≤c then some (c - 0) else none | none=>none),z:=(if AM.ah ob.p = 0 then ob.z else 1),tg:=0 },⟨rfl,rfl,h.row,h.ids,rfl⟩,?_⟩
 unfold dw
 simp only [hT,hs,hz,hsrc,hlive,h.row,h.ids,h.p,h.tg]
 rw [if_neg (by simp [hes])]
 have hc:True∧True∧0 + l.length = AM.ah (.pr es l)∧aN (.pr es l) = es∧fP C e (l.length + AM.ah (.pr es m)) = true:=⟨trivial,trivial,by simp [AM.ah],rfl,by simpa [AM.ah] using hroom⟩
 rw [if_pos hc]
 simp only [jd,Nat.zero_add,Nat.le_refl,if_true,List.drop_zero,List.take_length,rE,eX,aN]
 simp [AM.ah]
 rfl
theorem Ev1.newR (hT:Below C T) {args xs:List AV} {aK:List fC} {fn:Func} {c:Code} {n es:Nat} {l rest:List AV}
  (hF:C.P.funcs[f]? = some fn) (hb:fn.body = some c) (hl:aG C f H 0 args = some (xs,aK)) (hi:aA xs = []) (hn:xs.length + 1 < dG) (hri:aA rest = []) (hrt:aU rest = []) (hnt:eU rest = true) (hpi:aA l = []) (hpt:aU l = [])
  (h:aj (qo fun fr H1=>∃ o g ob,aP C fr H1 fn.results.toList = some (.sl o 0 n g :: rest)∧H1[o]? = some (some ob)∧Rw (.pr es l) g ob) C T f 0 c (numbered 0 (coerce C xs (aJ C f))) []) :
  ∃ ob',Rw (.pr es l) 0 ob'∧Ev1 C f args H (aO (.sl H.length 0 n 0 :: rest),H ++ [some ob']):=by
 obtain ⟨⟨ex,fr,H1⟩,⟨he,o,g,ob,hr,ho,hw⟩,hrun⟩:=h
 simp only at he hr ho
 subst he
 refine ⟨AM.fresh ob,⟨hw.p,rfl,hw.row,hw.ids,rfl⟩,?_⟩
 have:=Ev1.ZV (H:=H) hT hF hb hl hi hn hrun (.inr rfl) hr (o:=o) (g:=g) (ob:=ob) (by rw [lq (l:=.sl o 0 n g :: rest) hnt];simp [aA,ids,hri]) (by rw [jW (l:=.sl o 0 n g :: rest) hnt];simp [aU,tags,hrt]) (by simp [live,ho,hw.g]) hw.ids (by rw [hw.p];exact hpi) (by rw [hw.p];exact hpt) (by simp [dF,hw.ids,hw.p,hw.tg]) hw.tg
 rw [y8 (w:=.sl H.length 0 n 0) (by simp [ren]) (fE rest hri (fun t ht=>rfl)) (by exact hnt) (by exact hnt)] at this
 exact this
def QU (H:Heap) (a:AV) (es:Nat) (l:List AV):Prop :=
 ∃ c p,(p = .pr es l∨(p = .pn∧l = []))∧(c = 0→l = [])∧∀ t,∃ x,dS H t a = some (.ro c p t,x)
theorem QU.ro {c t es:Nat} {l:List AV} (hc:c = 0→l = []):QU H (.ro c (.pr es l) t) es l :=
 ⟨c,_,.inl rfl,hc,fun _=>⟨⟨[],[t]⟩,rfl⟩⟩
theorem QU.whole {o g es:Nat} {ob:Obj} {l:List AV} (ho:H[o]? = some (some ob)) (h:Rw (.pr es l) g ob):QU H (.sl o 0 l.length g) es l:=by
 have hlive:live H o g = some ob:=by simp [live,ho,h.g]
 refine ⟨if ob.z = 0∧AM.ah ob.p = 0 then 0 else 2,.pr es l,.inl rfl,fun h0=>?_,fun t=>⟨⟨[o],[ob.tg]⟩,?_⟩⟩
 ·split at h0
  ·rename_i hz
   have hm:l.length = 0:=by have:=hz.2;rw [h.p] at this;exact this
   exact List.eq_nil_of_length_eq_zero hm
  ·cases h0
 ·simp only [dS,dN,hlive,h.ids,h.p,jd]
  simp
end
end Go.AM
namespace Go.AM
def Ii (b:Array Nat) (n:Nat):List (Nat × Nat) :=
 (List.range n).flatMap fun j=>(List.range j).filterMap fun i=>if (b.getD j 0).testBit i then none else some (i,j)
def vH (ms:List Mark) (p:Nat × Nat):Bool:=match ms[p.1]?,ms[p.2]? with | some x,some y=>bear x y | _,_=>false
theorem jC {b:Array Nat} {ms:List Mark} {ps:List (Nat × Nat)} (h:Ii b ms.length = ps) (h2:ps.all (vH ms) = true):xC b ms = true:=by
 unfold xC
 rw [List.all_eq_true]
 intro j hj
 rw [List.all_eq_true]
 intro i hi
 cases hb:(b.getD j 0).testBit i with
 | true=>rfl
 | false =>
  rw [Bool.false_or]
  subst h
  have:=List.all_eq_true.1 h2 (i,j) (by
   unfold Ii
   rw [List.mem_flatMap]
   exact ⟨j,hj,List.mem_filterMap.2 ⟨i,hi,by rw [hb];rfl⟩⟩)
  exact this
end Go.AM
namespace Go.AM
section
variable {C:Ctx} {f:Nat} {H:Heap} {T:Cf}
def QV (H:Heap) (a:AV) (l:List AV):Prop :=
 ∃ c p,(p = .pc l∨(p = .pn∧l = []))∧(c = 0→l = [])∧∀ t,∃ x,dS H t a = some (.ro c p t,x)
theorem QV.ro {c t:Nat} {l:List AV} (hc:c = 0→l = []):QV H (.ro c (.pc l) t) l :=
 ⟨c,_,.inl rfl,hc,fun _=>⟨⟨[],[t]⟩,rfl⟩⟩
theorem QV.whole {o g:Nat} {ob:Obj} {l:List AV} (ho:H[o]? = some (some ob)) (h:Rw (.pc l) g ob):QV H (.sl o 0 l.length g) l:=by
 have hlive:live H o g = some ob:=by simp [live,ho,h.g]
 refine ⟨if ob.z = 0∧AM.ah ob.p = 0 then 0 else 2,.pc l,.inl rfl,fun h0=>?_,fun t=>⟨⟨[o],[ob.tg]⟩,?_⟩⟩
 ·split at h0
  ·rename_i hz
   have hm:l.length = 0:=by have:=hz.2;rw [h.p] at this;exact this
   exact List.eq_nil_of_length_eq_zero hm
  ·cases h0
 ·simp only [dS,dN,hlive,h.ids,h.p,jd]
  simp
end
end Go.AM
namespace Go.AM
section
variable {C:Ctx} {f:Nat} {H:Heap} {T:Cf}
end
end Go.AM
namespace Go.AM
section
variable {C:Ctx} {f:Nat} {H:Heap} {T:Cf}
end
end Go.AM
namespace Go.AM
theorem jo {ρ:Nat→Nat→Option (Nat × Nat)} {τ:Nat→Nat} {H:Heap} {π:List Nat} {H1:Heap}:∀ (l:List Nat) (k:Nat) (B:Heap),(bW ρ τ H π H1 k l B).length = B.length
 | [],_,_=>rfl
 | o :: r,k,B=>by rw [bW,jo r];simp [upd]
theorem y9 {ρ:Nat→Nat→Option (Nat × Nat)} {τ:Nat→Nat} {H:Heap} {π:List Nat} {H1:Heap} {j:Nat}:∀ (l:List Nat) (k:Nat) (B:Heap),j ∉ l→(bW ρ τ H π H1 k l B)[j]? = B[j]?
 | [],_,_,_=>rfl
 | o :: r,k,B,h=>by
  rw [bW,y9 r _ _ (fun h2=>h (List.mem_cons_of_mem _ h2))]
  unfold upd
  rw [List.getElem?_set_ne (fun h2=>h (by rw [h2];exact List.mem_cons_self ..))]
theorem Fv {ρ:Nat→Nat→Option (Nat × Nat)} {τ:Nat→Nat} {H:Heap} {π:List Nat} {H1:Heap}:∀ (l:List Nat) (k i o:Nat) (B:Heap),l.Nodup→l[i]? = some o→o < B.length →
  (bW ρ τ H π H1 k l B)[o]? = some ((aX H1 (k + i)).map fun ob=>aT ρ τ (fG H π (k + i) ob.g) ob)
 | [],_,i,_,_,_,h,_=>by simp at h
 | a :: r,k,0,o,B,hn,h,hl=>by
  simp at h
  subst h
  rw [List.nodup_cons] at hn
  rw [bW,y9 r _ _ hn.1]
  unfold upd
  rw [List.getElem?_set_self hl,Nat.add_zero]
 | a :: r,k,i + 1,o,B,hn,h,hl=>by
  rw [List.nodup_cons] at hn
  rw [bW,Fv r (k + 1) i o _ hn.2 (by simpa using h) (by simpa [upd] using hl),show k + 1 + i = k + (i + 1) by omega]
section
variable {C:Ctx} {f:Nat} {H:Heap} {T:Cf}
def okTags (n:Nat) (ob:Obj):Prop:=(∀ t ∈ tags ob.p,t = 0∨t = n)∧(ob.tg = 0∨ob.tg = n)
theorem okTags.ob {n:Nat} {ob:Obj} (h:okTags n ob) (hp:∀ l,ob.p ≠ .pm l):∀ t ∈ dF ob,t = 0∨t = n:=by
 intro t ht
 unfold dF at ht
 split at ht
 ·exact h.1 t ht
 ·rcases List.mem_cons.1 ht with rfl | ht
  ·exact h.2
  ·split at ht
   ·rename_i l hl;exact absurd hl (hp l)
   ·simp at ht
end
end Go.AM
namespace Go.AM
theorem MS {k:Nat}:∀ {new:List Nat},k ∈ new→∃ i,new[i]? = some k∧∀ j,idxOf new k j = some (j + i)
 | a :: r,h=>by
  by_cases e:a = k
  ·subst e
   exact ⟨0,rfl,fun j=>by simp [idxOf]⟩
  ·have hk:k ∈ r:=by
    rcases List.mem_cons.1 h with h | h
    ·exact absurd h.symm e
    ·exact h
   obtain ⟨i,h1,h2⟩:=MS hk
   refine ⟨i + 1,by simpa using h1,fun j=>?_⟩
   unfold idxOf
   rw [if_neg e,h2]
   congr 1
   omega
def At (H:Heap) (π new:List Nat) (k o':Nat):Prop:=(k < π.length∧π[k]? = some o')∨(π.length≤k∧∃ i,new[i]? = some k∧o' = H.length + i)
theorem At.inj {H:Heap} {π new:List Nat} {k k2 o o2:Nat} (hn:π.Nodup) (hlt:∀ x ∈ π,x < H.length) (h:At H π new k o) (h2:At H π new k2 o2) (hne:k ≠ k2):o ≠ o2:=by
 rcases h with ⟨h1,h3⟩ | ⟨h1,i,h3,rfl⟩ <;> rcases h2 with ⟨g1,g3⟩ | ⟨g1,j,g3,rfl⟩
 ·intro e
  subst e
  rw [List.getElem?_eq_getElem h1] at h3
  rw [List.getElem?_eq_getElem g1] at g3
  have:=(List.getElem_inj hn (h₀:=h1) (h₁:=g1)).1 ((Option.some.inj h3).trans (Option.some.inj g3).symm)
  exact hne this
 ·have:=hlt o (List.mem_of_getElem? h3)
  omega
 ·have:=hlt o2 (List.mem_of_getElem? g3)
  omega
 ·intro e
  have:i = j:=by omega
  subst this
  rw [h3] at g3
  exact hne (Option.some.inj g3)
theorem VJ {H E:Heap} {π new:List Nat} {τ:Nat→Nat} (hn:π.Nodup) (hlt:∀ x ∈ π,x < H.length) {k:Nat} {ob:Obj} (hk:aX E k = some ob) (hm:k < π.length∨(π.length≤k∧k ∈ new)) :
  ∃ o' g',bQ H π new E k ob.g = some (o',g')∧(bW (bQ H π new E) τ H π E 0 π H ++ new.map fun o=>(aX E o).map (aT (bQ H π new E) τ 0))[o']? = some (some (aT (bQ H π new E) τ g' ob))∧At H π new k o'∧(k < π.length→g' = fG H π k ob.g):=by
 have hl:live E k ob.g = some ob:=by
  unfold aX at hk
  unfold live
  cases h:E[k]? with
  | none=>rw [h] at hk;simp at hk
  | some x =>
   cases x with
   | none=>rw [h] at hk;simp at hk
   | some y =>
    rw [h] at hk
    simp at hk
    subst hk
    simp
 rcases hm with hm | ⟨hm,hmem⟩
 ·obtain ⟨o',ho'⟩:∃ o',π[k]? = some o':=⟨_,List.getElem?_eq_getElem hm⟩
  have hol:=hlt o' (List.mem_of_getElem? ho')
  refine ⟨o',fG H π k ob.g,?_,?_,.inl ⟨hm,ho'⟩,fun _=>rfl⟩
  ·unfold bQ
   rw [hl]
   simp only
   rw [if_pos hm,ho']
   rfl
  ·rw [List.getElem?_append_left (by rw [jo];exact hol)]
   have:=Fv (ρ:=bQ H π new E) (τ:=τ) (H:=H) (π:=π) (H1:=E) π 0 k o' H hn ho' hol
   rw [this,Nat.zero_add,hk]
   rfl
 ·obtain ⟨i,hi,hj⟩:=MS hmem
  refine ⟨H.length + i,0,?_,?_,.inr ⟨hm,i,hi,rfl⟩,fun h=>by omega⟩
  ·unfold bQ
   rw [hl]
   simp only
   rw [if_neg (by omega),hj]
   rfl
  ·rw [List.getElem?_append_right (by rw [jo];omega),jo,Nat.add_sub_cancel_left,List.getElem?_map,hi]
   simp [hk]
theorem VK {H E:Heap} {π new:List Nat} {τ:Nat→Nat} {ρ:Nat→Nat→Option (Nat × Nat)} {j:Nat} (hj:j < H.length) (hjp:j ∉ π):(bW ρ τ H π E 0 π H ++ new.map fun o=>(aX E o).map (aT ρ τ 0))[j]? = H[j]?:=by
 rw [List.getElem?_append_left (by rw [jo];exact hj),y9 _ _ _ hjp]
end Go.AM
namespace Go.AM
def eP (π:List (Nat × Nat)) (k _:Nat):Option (Nat × Nat):=π[k]?
def idN (o g:Nat):Option (Nat × Nat):=some (o,g)
def tz (_:Nat):Nat:=0
section
variable {ρ ρ2 ρ3:Nat→Nat→Option (Nat × Nat)} {τ τ2 τ3:Nat→Nat}
mutual
theorem mY (h:∀ o g,(ρ o g).bind (fun x=>ρ2 x.1 x.2) = ρ3 o g) (ht:∀ t,τ2 (τ t) = τ3 t):(v:AV)→ren ρ2 τ2 (ren ρ τ v) = ren ρ3 τ3 v
 | .ptr o i f g=>by
  have h1:=h o g
  simp only [ren]
  rcases e:ρ o g with _ | ⟨a,b⟩
  ·rw [e] at h1;simp only [Option.bind_none] at h1;simp [ren,← h1]
  ·rw [e] at h1;simp only [Option.bind_some] at h1;simp [ren,← h1]
 | .sl o i f g=>by
  have h1:=h o g
  simp only [ren]
  rcases e:ρ o g with _ | ⟨a,b⟩
  ·rw [e] at h1;simp only [Option.bind_none] at h1;simp [ren,← h1]
  ·rw [e] at h1;simp only [Option.bind_some] at h1;simp [ren,← h1]
 | .map o g=>by
  have h1:=h o g
  simp only [ren]
  rcases e:ρ o g with _ | ⟨a,b⟩
  ·rw [e] at h1;simp only [Option.bind_none] at h1;simp [ren,← h1]
  ·rw [e] at h1;simp only [Option.bind_some] at h1;simp [ren,← h1]
 | .ro c p t=>by simp only [ren,ht]
 | .iW p i f t=>by simp only [ren,ht]
 | .agg p=>by simp only [ren,mY h ht p]
 | .tup l=>by simp only [ren,uh h ht l]
 | .fn f l=>by simp only [ren,uh h ht l]
 | .pc l=>by simp only [ren,uh h ht l]
 | .pr e l=>by simp only [ren,uh h ht l]
 | .pm l=>by simp only [ren,uh h ht l]
 | .top=>rfl
 | .bool _=>rfl
 | .int _ _=>rfl
 | .str _=>rfl
 | .gK=>rfl
 | .jD=>rfl
 | .iD=>rfl
 | .pn=>rfl
 | .pb _=>rfl
 | .pi _ _=>rfl
theorem uh (h:∀ o g,(ρ o g).bind (fun x=>ρ2 x.1 x.2) = ρ3 o g) (ht:∀ t,τ2 (τ t) = τ3 t):(l:List AV)→bn ρ2 τ2 (bn ρ τ l) = bn ρ3 τ3 l
 | []=>rfl
 | a :: r=>by simp only [bn,mY h ht a,uh h ht r]
end
end
section
variable {π:List (Nat × Nat)} {τ:Nat→Nat}
def sg (π:List (Nat × Nat)) (k:Nat):Nat:=(π.getD k (0,0)).1
mutual
theorem D5:(v:AV)→(∀ o ∈ ids v,o < π.length)→ids (ren (eP π) τ v) = (ids v).map (sg π)
 | .ptr o i f g,h=>by
  have hl:o < π.length:=h o (by simp [ids])
  simp only [ren,eP,List.getElem?_eq_getElem hl]
  simp [ids,sg,List.getD,List.getElem?_eq_getElem hl]
 | .sl o i f g,h=>by
  have hl:o < π.length:=h o (by simp [ids])
  simp only [ren,eP,List.getElem?_eq_getElem hl]
  simp [ids,sg,List.getD,List.getElem?_eq_getElem hl]
 | .map o g,h=>by
  have hl:o < π.length:=h o (by simp [ids])
  simp only [ren,eP,List.getElem?_eq_getElem hl]
  simp [ids,sg,List.getD,List.getElem?_eq_getElem hl]
 | .ro c p t,_=>rfl
 | .iW p i f t,_=>rfl
 | .agg p,h=>by simp only [ids] at h;simp only [ren,ids,D5 p h]
 | .tup l,h=>by simp only [ids] at h;simp only [ren,ids,uj l h]
 | .fn f l,h=>by simp only [ids] at h;simp only [ren,ids,uj l h]
 | .pc l,h=>by simp only [ids] at h;simp only [ren,ids,uj l h]
 | .pr e l,h=>by simp only [ids] at h;simp only [ren,ids,uj l h]
 | .pm l,h=>by simp only [ids] at h;simp only [ren,ids,uj l h]
 | .top,_=>rfl
 | .bool _,_=>rfl
 | .int _ _,_=>rfl
 | .str _,_=>rfl
 | .gK,_=>rfl
 | .jD,_=>rfl
 | .iD,_=>rfl
 | .pn,_=>rfl
 | .pb _,_=>rfl
 | .pi _ _,_=>rfl
theorem uj:(l:List AV)→(∀ o ∈ aA l,o < π.length)→aA (bn (eP π) τ l) = (aA l).map (sg π)
 | [],_=>rfl
 | a :: r,h=>by
  simp only [aA,List.mem_append] at h
  simp only [bn,aA,D5 a (fun o ho=>h o (.inl ho)),uj r (fun o ho=>h o (.inr ho)),List.map_append]
end
end
structure Like (t:Nat) (π:List (Nat × Nat)) (g:Nat) (ob0 ob:Obj):Prop where
 p:ren idN tz ob.p = ren (eP π) tz ob0.p
 gen:ob.g = g
 row:ob.row = ob0.row
 ids:ob.ids = ob0.ids
 bx:ob0.row = false→ob.cap = ob0.cap∧ob.z = ob0.z∧g = 0
 tg:ob.tg = 0∨ob.tg = t
 tp:∀ k ∈ tags ob.p,k = 0∨k = t
structure Img (t:Nat) (H:Heap) (π:List (Nat × Nat)) (S:List Obj):Prop where
 len:π.length = S.length
 nd:∀ (j k oj gj ok gk:Nat),π[j]? = some (oj,gj)→π[k]? = some (ok,gk)→oj = ok→j = k
 ob:∀ (k:Nat) (ob0:Obj),S[k]? = some ob0→∃ o g ob,π[k]? = some (o,g)∧H[o]? = some (some ob)∧Like t π g ob0 ob
def OkS (S:List Obj):Prop:=∀ (k:Nat) (ob0:Obj),S[k]? = some ob0→∀ o ∈ ids ob0.p,o < S.length
def pi0 (K:Nat):List (Nat × Nat):=(List.range K).map fun k=>(k,0)
theorem qR {K k:Nat}:(pi0 K)[k]? = if k < K then some (k,0) else none:=by
 unfold pi0
 rw [List.getElem?_map]
 by_cases h:k < K
 ·rw [List.getElem?_range h,if_pos h];rfl
 ·rw [List.getElem?_eq_none (by simpa using h),if_neg h];rfl
theorem jw {π:List (Nat × Nat)} {k o g:Nat} (h:π[k]? = some (o,g)):sg π k = o:=by simp [sg,List.getD,h]
section
variable {t:Nat} {H:Heap} {π:List (Nat × Nat)} {S:List Obj}
theorem Img.at' (h:Img t H π S) {k:Nat} (hk:k < S.length):∃ o g ob,π[k]? = some (o,g)∧H[o]? = some (some ob)∧Like t π g S[k] ob:=h.ob k S[k] (List.getElem?_eq_getElem hk)
theorem Img.ids (h:Img t H π S) (hok:OkS S) {k:Nat} {ob0 ob:Obj} {g:Nat} (hk:S[k]? = some ob0) (hl:Like t π g ob0 ob):AM.ids ob.p = (AM.ids ob0.p).map (sg π):=by
 have h1:AM.ids (ren idN tz ob.p) = AM.ids ob.p:=QT.qX ob.p
 rw [← h1,hl.p]
 exact D5 _ fun o ho=>by rw [h.len];exact hok k ob0 hk o ho
theorem Img.Jj (h:Img t H π S) {j k:Nat} (hj:j < S.length) (hk:k < S.length) (e:sg π j = sg π k):j = k:=by
 obtain ⟨o,g,_,h1,_⟩:=h.at' hj
 obtain ⟨o2,g2,_,h2,_⟩:=h.at' hk
 rw [jw h1,jw h2] at e
 exact h.nd j k _ _ _ _ h1 h2 e
theorem Img.fst (h:Img t H π S):π.map Prod.fst = (List.range S.length).map (sg π):=by
 refine List.ext_getElem? fun k=>?_
 rw [List.getElem?_map,List.getElem?_map]
 by_cases hk:k < S.length
 ·obtain ⟨o,g,_,h1,_⟩:=h.at' hk
  rw [h1,List.getElem?_range hk]
  simp [jw h1]
 ·rw [List.getElem?_eq_none (by rw [h.len];omega),List.getElem?_eq_none (by simpa using hk)];rfl
theorem Img.nodup (h:Img t H π S):(π.map Prod.fst).Nodup:=by
 rw [h.fst,List.nodup_iff_pairwise_ne,List.pairwise_map]
 have:=(List.nodup_iff_pairwise_ne.1 (List.nodup_range (n:=S.length)))
 refine List.Pairwise.imp_of_mem ?_ this
 intro a b ha hb hne e
 exact hne (h.Jj (List.mem_range.1 ha) (List.mem_range.1 hb) e)
theorem Img.lt (h:Img t H π S):∀ x ∈ π.map Prod.fst,x < H.length:=by
 intro x hx
 rw [h.fst] at hx
 obtain ⟨k,hk,rfl⟩:=List.mem_map.1 hx
 obtain ⟨o,g,ob,h1,h2,_⟩:=h.at' (List.mem_range.1 hk)
 rw [jw h1]
 exact (List.getElem?_eq_some_iff.1 h2).1
theorem Img.sW {k o g:Nat} (h:π[k]? = some (o,g)):(π.map Prod.fst)[k]? = some o:=by rw [List.getElem?_map,h];rfl
theorem xP (h:Img t H π S) (hok:OkS S):∀ (n:Nat) (l acc:List Nat),(∀ o ∈ l,o < S.length)→(∀ o ∈ acc,o < S.length) →
  reach H n (l.map (sg π)) (acc.map (sg π)) = (reach (S.map some) n l acc).map (sg π)∧∀ o ∈ reach (S.map some) n l acc,o < S.length
 | 0,l,acc,_,ha=>⟨rfl,ha⟩
 | n + 1,[],acc,_,ha=>⟨rfl,ha⟩
 | n + 1,o :: r,acc,hl,ha=>by
  have ho:=hl o (List.mem_cons_self ..)
  obtain ⟨o',g,ob,h1,h2,h3⟩:=h.at' ho
  have hc:(acc.map (sg π)).contains (sg π o) = acc.contains o:=by
   rw [Bool.eq_iff_iff]
   simp only [List.contains_iff_mem,List.mem_map]
   constructor
   ·rintro ⟨a,h4,h5⟩
    rw [← h.Jj (ha a h4) ho h5];exact h4
   ·intro h4;exact ⟨o,h4,rfl⟩
  have hS:(S.map some)[o]? = some (some S[o]):=by rw [List.getElem?_map,List.getElem?_eq_getElem ho];rfl
  simp only [List.map_cons,reach]
  rw [hc]
  by_cases hm:acc.contains o = true
  ·rw [if_pos hm,if_pos hm]
   exact xP h hok n r acc (fun x hx=>hl x (List.mem_cons_of_mem _ hx)) ha
  ·rw [if_neg hm,if_neg hm,hS,jw h1,h2]
   simp only
   have hi:=h.ids hok (List.getElem?_eq_getElem ho) h3
   have e:(if ob.ids = true then AM.ids ob.p else []) ++ r.map (sg π) = ((if S[o].ids = true then AM.ids S[o].p else []) ++ r).map (sg π):=by
    rw [h3.ids,hi,List.map_append]
    split <;> rfl
   have e2:acc.map (sg π) ++ [o'] = (acc ++ [o]).map (sg π):=by rw [List.map_append,List.map_cons,List.map_nil,jw h1]
   rw [e,e2]
   refine xP h hok n _ _ ?_ ?_
   ·intro x hx
    rcases List.mem_append.1 hx with hx | hx
    ·split at hx
     ·exact hok o _ (List.getElem?_eq_getElem ho) x hx
     ·cases hx
    ·exact hl x (List.mem_cons_of_mem _ hx)
   ·intro x hx
    rcases List.mem_append.1 hx with hx | hx
    ·exact ha x hx
    ·rw [List.mem_singleton.1 hx];exact ho
theorem MV {l:List Nat} (hn:l.Nodup):∀ {k o i:Nat},l[k]? = some o→idxOf l o i = some (i + k):=by
 induction l with
 | nil=>intro k o i h;simp at h
 | cons a r ih =>
  intro k o i h
  rw [List.nodup_cons] at hn
  unfold idxOf
  cases k with
  | zero =>
   simp at h
   rw [if_pos h];rfl
  | succ k =>
   simp at h
   have:a ≠ o:=fun e=>hn.1 (e ▸ List.mem_of_getElem? h)
   rw [if_neg this,ih hn.2 h]
   congr 1
   omega
theorem Img.dH (h:Img t H π S) (k g0:Nat):(eP π k g0).bind (fun x=>AM.dH H (π.map Prod.fst) x.1 x.2) = eP (pi0 S.length) k g0:=by
 unfold eP
 rw [qR]
 by_cases hk:k < S.length
 ·obtain ⟨o,g,ob,h1,h2,h3⟩:=h.at' hk
  rw [h1,if_pos hk]
  simp only [Option.bind_some]
  have hl:live H o g = some ob:=bI.2 ⟨h2,h3.gen⟩
  unfold AM.dH
  rw [hl]
  simp only
  rw [MV h.nodup (Img.sW h1)]
  simp
 ·rw [List.getElem?_eq_none (by rw [h.len];omega),if_neg hk];rfl
theorem Img.into (h:Img t H π S) (n:Nat):Img n ((π.map Prod.fst).map fun o=>(aX H o).map (aT (AM.dH H (π.map Prod.fst)) (fun _=>n) 0)) (pi0 S.length) S where
 len:=by simp [pi0]
 nd:=by
  intro j k oj gj ok gk h1 h2 e
  rw [qR] at h1 h2
  split at h1
  ·split at h2
   ·simp only [Option.some.injEq,Prod.mk.injEq] at h1 h2
    omega
   ·cases h2
  ·cases h1
 ob:=by
  intro k ob0 hk
  obtain ⟨o,g,ob,h1,h2,h3⟩:=h.ob k ob0 hk
  have hlt:=(List.getElem?_eq_some_iff.1 hk).1
  have ht:∀ v:AV,∀ x ∈ tags (ren (AM.dH H (π.map Prod.fst)) (fun _=>n) v),x = n:=by
   intro v x hx
   rw [jH] at hx
   obtain ⟨_,_,rfl⟩:=List.mem_map.1 hx
   rfl
  refine ⟨k,0,aT (AM.dH H (π.map Prod.fst)) (fun _=>n) 0 ob,by rw [qR,if_pos hlt],?_,⟨?_,rfl,h3.row,h3.ids,fun hr=>⟨(h3.bx hr).1,(h3.bx hr).2.1,rfl⟩,.inr rfl,fun x hx=>.inr (ht ob.p x hx)⟩⟩
  ·rw [List.getElem?_map,Img.sW h1]
   simp [aX,h2]
  ·simp only [aT]
   rw [mY (ρ:=AM.dH H (π.map Prod.fst)) (ρ2:=idN) (τ:=fun _=>n) (τ2:=tz) (ρ3:=AM.dH H (π.map Prod.fst)) (τ3:=tz) (fun o g=>by cases AM.dH H (π.map Prod.fst) o g <;> rfl) (fun _=>rfl)]
   rw [← mY (ρ:=idN) (τ:=tz) (ρ2:=AM.dH H (π.map Prod.fst)) (τ2:=tz) (ρ3:=AM.dH H (π.map Prod.fst)) (τ3:=tz) (fun o g=>rfl) (fun _=>rfl) ob.p]
   rw [h3.p]
   exact mY (fun o g=>h.dH o g) (fun _=>rfl) ob0.p
theorem MW {a b t:Nat} (ha:a = 0∨a = t) (hb:b = 0∨b = t):∃ t',(t' = 0∨t' = t)∧eX a b = some t':=by
 unfold eX
 rcases ha with rfl | rfl
 ·exact ⟨b,hb,by simp⟩
 ·by_cases h0:a = 0
  ·exact ⟨b,hb,by simp [h0]⟩
  ·refine ⟨a,.inr rfl,?_⟩
   rw [if_neg h0,if_pos]
   rcases hb with rfl | rfl
   ·exact .inl rfl
   ·exact .inr rfl
theorem Ap {t:Nat}:∀ l:List Nat,(∀ k ∈ l,k = 0∨k = t)→∃ t',dO l = some t'∧(t' = 0∨t' = t)
 | [],_=>⟨0,rfl,.inl rfl⟩
 | k :: r,hl=>by
  obtain ⟨t',h1,h2⟩:=Ap r fun x hx=>hl x (List.mem_cons_of_mem _ hx)
  obtain ⟨t3,h3,h4⟩:=MW (hl k (List.mem_cons_self ..)) h2
  exact ⟨t3,by simp [dO,h1,h4],h3⟩
theorem Like.dF {g:Nat} {ob0 ob:Obj} (h:Like t π g ob0 ob):∀ k ∈ AM.dF ob,k = 0∨k = t:=by
 intro k hk
 unfold AM.dF at hk
 split at hk
 ·exact h.tp k hk
 ·rcases List.mem_cons.1 hk with rfl | hk
  ·exact h.tg
  ·split at hk
   ·rename_i l hl
    refine h.tp k ?_
    rw [hl];exact hk
   ·cases hk
theorem mZ {t:Nat} {H:Heap}:∀ l:List Nat,(∀ o ∈ l,∀ ob,aX H o = some ob→∀ k ∈ AM.dF ob,k = 0∨k = t)→∀ k ∈ ay (l.map (aX H)),k = 0∨k = t
 | [],_,k,hk=>by simp [ay] at hk
 | o :: r,h,k,hk=>by
  rw [List.map_cons] at hk
  cases ho:aX H o with
  | none =>
   rw [ho,ay] at hk
   exact mZ r (fun x hx=>h x (List.mem_cons_of_mem _ hx)) k hk
  | some ob =>
   rw [ho,ay] at hk
   rcases List.mem_append.1 hk with hk | hk
   ·exact h o (List.mem_cons_self ..) ob ho k hk
   ·exact mZ r (fun x hx=>h x (List.mem_cons_of_mem _ hx)) k hk
theorem Img.Pj (h:Img t H π S) {k:Nat} (hk:k < S.length):∀ ob,aX H (sg π k) = some ob→∀ x ∈ AM.dF ob,x = 0∨x = t:=by
 intro ob hob
 obtain ⟨o,g,ob',h1,h2,h3⟩:=h.at' hk
 rw [jw h1] at hob
 have:ob = ob':=by simpa [aX,h2] using hob.symm
 rw [this]
 exact h3.dF
end
def fK (C:Ctx) (f:Nat) (H:Heap) (π:List (Nat × Nat)) (K i:Nat) (xs ys:List AV):Prop :=
 ∃ as aK,aG C f H i xs = some (as,aK)∧(∀ x ∈ aK,disjoint x.objs (π.map Prod.fst) = true)∧bn (dH H (π.map Prod.fst)) (fun t=>t) as = ys ∧
  aA as = (aA ys).map (sg π)∧(∀ o ∈ aA ys,o < K)∧as.length = xs.length∧aK.length = xs.length
section
variable {C:Ctx} {f:Nat} {H:Heap} {π:List (Nat × Nat)} {K i:Nat} {xs ys:List AV}
theorem fK.nil:fK C f H π K i [] []:=⟨[],[],rfl,by simp,rfl,rfl,by simp [aA],rfl,rfl⟩
theorem fK.flat {a:AV} (hrw:C.rw f i = false) (ha:yw a = true) (h:fK C f H π K (i + 1) xs ys):fK C f H π K i (a :: xs) (a :: ys):=by
 obtain ⟨as,aK,h1,h2,h3,h4,h5,h6,h7⟩:=h
 obtain ⟨hi,ht⟩:=MQ ha
 refine ⟨a :: as,⟨[],[]⟩ :: aK,lH hrw ha h1,?_,?_,by simp [aA,hi,h4],by simpa [aA,hi] using h5,by simp [h6],by simp [h7]⟩
 ·intro x hx
  rcases List.mem_cons.1 hx with rfl | hx
  ·rfl
  ·exact h2 x hx
 ·simp only [bn,h3]
  rw [jc a hi (fun _ _=>rfl)]
def slO:AV→List Nat
 | .sl o _ _ _=>[o]
 | _=>[]
theorem fK.ptr {t k o a b g:Nat} {S:List Obj} (hI:Img t H π S) (hrw:C.rw f i = false) (hk:π[k]? = some (o,g)) (hK:k < S.length) (h:fK C f H π S.length (i + 1) xs ys):fK C f H π S.length i (.ptr o a b g :: xs) (.ptr k a b 0 :: ys):=by
 obtain ⟨as,aK,h1,h2,h3,h4,h5,h6,h7⟩:=h
 have hin:dH H (π.map Prod.fst) o g = some (k,0):=by
  have:=hI.dH k 0
  unfold eP at this
  rw [hk,qR,if_pos hK] at this
  simpa using this
 refine ⟨.ptr o a b g :: as,⟨[],[]⟩ :: aK,?_,?_,?_,?_,?_,by simp [h6],by simp [h7]⟩
 ·simp only [aG,hrw]
  simp [dS,dN,tags,h1]
 ·intro x hx
  rcases List.mem_cons.1 hx with rfl | hx
  ·rfl
  ·exact h2 x hx
 ·simp [bn,ren,hin,h3]
 ·simp [aA,ids,h4,jw hk]
 ·intro x hx
  simp only [aA,ids,List.mem_append,List.mem_singleton] at hx
  rcases hx with rfl | hx
  ·exact hK
  ·exact h5 x hx
end
def kE (P:Frame→Heap→Prop) (o:Out):Prop:=(o.ex = .normal∨o.ex = .ret)∧P o.fr o.H
theorem kE.ret {P:Frame→Heap→Prop} {o:Out} (h:qo P o):kE P o:=⟨.inr h.1,h.2⟩
def Leaves (C:Ctx) (rs:List ResultVar) (n:Nat) (S:List Obj) (Q:List Obj→AV→Prop) (fr:Frame) (E:Heap):Prop :=
 ∃ π' S' v0 l,aP C fr E rs = some l∧aO l = ren (eP π') (fun t=>t) v0∧Img n E π' S'∧OkS S'∧(∀ k ∈ tags v0,k = 0∨k = n)∧(∀ o ∈ ids v0,o < S'.length)∧S.length≤S'.length ∧
  (∀ k:Nat,k < S.length→∃ g,π'[k]? = some (k,g))∧(∀ (k:Nat) (ob ob':Obj),S[k]? = some ob→S'[k]? = some ob'→ob'.row = ob.row) ∧
  (∀ k,S.length≤k→k < S'.length→k ∈ reach (S'.map some) aB (List.range S.length ++ ids v0) [])∧Q S' v0
section
variable {C:Ctx} {T:Cf} {f:Nat} {H:Heap}
theorem Ev1.img (hT:Below C T) {fn:Func} {c:Code} {t n:Nat} {π:List (Nat × Nat)} {S:List Obj} {xs ys:List AV} {Q:List Obj→AV→Prop}
  (hF:C.P.funcs[f]? = some fn) (hb:fn.body = some c) (hI:Img t H π S) (hok:OkS S) (hA:fK C f H π S.length 0 xs ys)
  (hR:reach (S.map some) aB (aA ys) [] = List.range S.length) (hn:xs.length + 1 = n) (hng:n < dG)
  (run:∀ E,E.length = S.length→Img n E (pi0 S.length) S→aj (kE (Leaves C fn.results.toList n S Q)) C T f S.length c (numbered 0 (coerce C ys (aJ C f))) E) :
  ∃ π'' S' v0 H' τf,Ev1 C f xs H (ren (eP π'') τf v0,H')∧(∀ k ∈ tags v0,τf k = 0∨τf k = t)∧Img t H' π'' S'∧OkS S'∧(∀ o ∈ ids v0,o < S'.length)∧Q S' v0∧H.length≤H'.length ∧
   (∀ (k o g:Nat),π[k]? = some (o,g)→∃ g',π''[k]? = some (o,g'))∧(∀ (k o g:Nat),S.length≤k→π''[k]? = some (o,g)→H.length≤o) ∧
   (∀ j,j < H.length→(∀ (k o g:Nat),π[k]? = some (o,g)→j ≠ o)→H'[j]? = H[j]?):=by
 obtain ⟨as,aK,h1,h2,h3,h4,h5,h6,h7⟩:=hA
 have hr1:reach H aB (aA as) [] = π.map Prod.fst:=by
  have:=(xP hI hok aB (aA ys) [] h5 (by simp)).1
  rw [List.map_nil] at this
  rw [h4,this,hR,hI.fst]
 have hpl:(π.map Prod.fst).length = S.length:=by rw [List.length_map,hI.len]
 have hE:=hI.into n
 have hEl:((π.map Prod.fst).map fun o=>(aX H o).map (aT (dH H (π.map Prod.fst)) (fun _=>n) 0)).length = S.length:=by rw [List.length_map,hpl]
 obtain ⟨⟨ex,fr,E⟩,⟨he,π',S',v0,l,r1,r2,r3,r4,r5,r6,r7,r8,r9,r10,r11⟩,hrun⟩:=run _ hEl hE
 simp only at he r1 r3
 have hlt:=hI.lt
 have hnd:=hI.nodup
 -- what is left behind
 have hri:=xP r3 r4 aB (List.range S.length ++ ids v0) [] (fun o ho=>by
  rcases List.mem_append.1 ho with ho | ho
  ·have:=List.mem_range.1 ho;omega
  ·exact r6 o ho) (by simp)
 have agw:ids (aO l) = (ids v0).map (sg π'):=by rw [r2];exact D5 v0 fun o ho=>by rw [r3.len];exact r6 o ho
 have hrange:(List.range S.length).map (sg π') = List.range S.length:=by
  refine List.ext_getElem? fun k=>?_
  rw [List.getElem?_map]
  by_cases hk:k < S.length
  ·obtain ⟨g,hg⟩:=r8 k hk
   rw [List.getElem?_range hk]
   simp [jw hg]
  ·rw [List.getElem?_eq_none (by simpa using hk)];rfl
 generalize hRR:reach (S'.map some) aB (List.range S.length ++ ids v0) [] = R at *
 have hK:reach E aB (List.range (π.map Prod.fst).length ++ ids (aO l)) [] = R.map (sg π'):=by
  rw [hpl,agw,← hri.1,List.map_append,hrange,List.map_nil]
 obtain ⟨t',hjt,htt⟩:=Ap (t:=t) (ay ((π.map Prod.fst).map (aX H))) (mZ _ fun o ho ob hob=>by
  rw [hI.fst] at ho
  obtain ⟨k,hk,rfl⟩:=List.mem_map.1 ho
  exact hI.Pj (List.mem_range.1 hk) ob hob)
 have hal:as.length + 1 = n:=by omega
 have hn0:0 < n:=by omega
 -- new objects
 generalize hnew:(R.map (sg π')).filter (fun o=>decide ((π.map Prod.fst).length≤o)) = new
 have VL:∀ k,S.length≤k→k < S'.length→sg π' k ∈ new∧S.length≤sg π' k:=by
  intro k hk hk2
  have hge:S.length≤sg π' k:=by
   refine Classical.byContradiction fun hc=>?_
   have hc:sg π' k < S.length:=by omega
   obtain ⟨g,hg⟩:=r8 _ hc
   obtain ⟨o,g2,_,h8,_⟩:=r3.at' hk2
   have e:=jw h8
   rw [e] at hg hc
   have:=r3.nd k o _ _ _ _ h8 hg rfl
   omega
  refine ⟨?_,hge⟩
  rw [← hnew,List.mem_filter]
  exact ⟨List.mem_map.2 ⟨k,r10 k hk hk2,rfl⟩,by simpa [hI.len] using hge⟩
 have hmem:∀ k,k < S'.length→sg π' k < (π.map Prod.fst).length∨((π.map Prod.fst).length≤sg π' k∧sg π' k ∈ new):=by
  intro k hk
  rw [hpl]
  by_cases hk2:k < S.length
  ·obtain ⟨g,hg⟩:=r8 k hk2
   rw [jw hg];exact .inl hk2
  ·obtain ⟨q1,q2⟩:=VL k (by omega) hk
   exact .inr ⟨q2,q1⟩
 have hbt:∀ k,k = 0∨k = n→dU (aK ++ [⟨[],ay ((π.map Prod.fst).map (aX H))⟩]) k = some (bk n t' k):=by
  rintro k (rfl | rfl)
  ·unfold dU bk
   rw [if_pos rfl,if_neg (by omega)]
  ·unfold dU bk
   rw [if_neg (by omega),if_pos rfl]
   rw [List.getElem?_append_right (by omega),show k - 1 - aK.length = 0 by omega]
   simp only [List.getElem?_cons_zero]
   exact hjt
 have hgo:∀ k,k = 0∨k = n→dM (aK ++ [⟨[],ay ((π.map Prod.fst).map (aX H))⟩]) k = []:=by
  rintro k (rfl | rfl)
  ·rfl
  ·unfold dM
   rw [if_neg (by omega)]
   rw [List.getElem?_append_right (by omega),show k - 1 - aK.length = 0 by omega]
   rfl
 generalize hL:(aK ++ [⟨[],ay ((π.map Prod.fst).map (aX H))⟩]:List fC) = L at hbt hgo
 have hbT:∀ k,k = 0∨k = n→bV L k = bk n t' k:=fun k hk=>by unfold bV;rw [hbt k hk];rfl
 have hb0:bV L 0 = 0:=by rw [hbT 0 (.inl rfl)];unfold bk;rw [if_neg (by omega)]
 have ZX:∀ k,k = 0∨k = n→bV L k = 0∨bV L k = t:=by
  intro k hk
  rw [hbT k hk]
  unfold bk
  split
  ·exact htt
  ·exact .inl rfl
 have htv:∀ k ∈ tags (aO l),k = 0∨k = n:=by
  intro k hk
  rw [r2,jH] at hk
  simp only [List.map_id'] at hk
  exact r5 k hk
 have hus:∀ x ∈ tags (aO l) ++ ay ((List.range (π.map Prod.fst).length).map (aX E)) ++ ay (new.map (aX E)),x = 0∨x = n:=by
  intro x hx
  rcases List.mem_append.1 hx with hx | hx
  ·rcases List.mem_append.1 hx with hx | hx
   ·exact htv x hx
   ·refine mZ _ ?_ x hx
    intro o ho ob hob
    have ho:=List.mem_range.1 ho
    rw [hpl] at ho
    obtain ⟨g,hg⟩:=r8 o ho
    have:=r3.Pj (k:=o) (by omega) ob
    rw [jw hg] at this
    exact this hob
  ·refine mZ _ ?_ x hx
   intro o ho ob hob
   rw [← hnew,List.mem_filter] at ho
   obtain ⟨k,hk,rfl⟩:=List.mem_map.1 ho.1
   exact r3.Pj (hri.2 k hk) ob hob
 -- back
 have hback:∀ (k:Nat) (ob0:Obj),S'[k]? = some ob0→∃ o' g' ob' o'' g'',π'[k]? = some (o',g')∧E[o']? = some (some ob')∧Like n π' g' ob0 ob'∧bQ H (π.map Prod.fst) new E o' g' = some (o'',g'') ∧
   (bW (bQ H (π.map Prod.fst) new E) (bV L) H (π.map Prod.fst) E 0 (π.map Prod.fst) H ++ new.map fun o=>(aX E o).map (aT (bQ H (π.map Prod.fst) new E) (bV L) 0))[o'']? = some (some (aT (bQ H (π.map Prod.fst) new E) (bV L) g'' ob')) ∧
   At H (π.map Prod.fst) new o' o''∧(o' < (π.map Prod.fst).length→g'' = fG H (π.map Prod.fst) o' ob'.g):=by
  intro k ob0 hk
  obtain ⟨o',g',ob',q1,q2,q3⟩:=r3.ob k ob0 hk
  have hkl:=(List.getElem?_eq_some_iff.1 hk).1
  have hm:=hmem k hkl
  rw [jw q1] at hm
  obtain ⟨o'',g'',e1,e2,e3,e4⟩:=VJ (τ:=bV L) (new:=new) hnd hlt (show aX E o' = some ob' by simp [aX,q2]) hm
  rw [q3.gen] at e1
  exact ⟨o',g',ob',o'',g'',q1,q2,q3,e1,e2,e3,e4⟩
 generalize hH':bW (bQ H (π.map Prod.fst) new E) (bV L) H (π.map Prod.fst) E 0 (π.map Prod.fst) H ++ (new.map fun o=>(aX E o).map (aT (bQ H (π.map Prod.fst) new E) (bV L) 0)) = H' at hback
 have Gw:∀ k g0,(eP π' k g0).bind (fun x=>bQ H (π.map Prod.fst) new E x.1 x.2) = eP (π'.map fun x=>(bQ H (π.map Prod.fst) new E x.1 x.2).getD (0,0)) k g0:=by
  intro k g0
  unfold eP
  rw [List.getElem?_map]
  by_cases hk:k < S'.length
  ·obtain ⟨o',g',ob',o'',g'',q1,_,_,q4,_⟩:=hback k _ (List.getElem?_eq_getElem hk)
   rw [q1]
   simp [q4]
  ·rw [List.getElem?_eq_none (by rw [r3.len];omega)];rfl
 have hat:∀ k o g,(π'.map fun x=>(bQ H (π.map Prod.fst) new E x.1 x.2).getD (0,0))[k]? = some (o,g)→k < S'.length∧∃ o' g',π'[k]? = some (o',g')∧bQ H (π.map Prod.fst) new E o' g' = some (o,g)∧At H (π.map Prod.fst) new o' o:=by
  intro k o g hk
  rw [List.getElem?_map] at hk
  have hkl:k < S'.length:=by
   refine Classical.byContradiction fun hc=>?_
   rw [List.getElem?_eq_none (by rw [r3.len];omega)] at hk
   cases hk
  obtain ⟨o',g',ob',o'',g'',q1,_,_,q4,_,q6,_⟩:=hback k _ (List.getElem?_eq_getElem hkl)
  rw [q1] at hk
  simp only [Option.map_some,q4,Option.getD_some,Option.some.injEq,Prod.mk.injEq] at hk
  obtain ⟨rfl,rfl⟩:=hk
  exact ⟨hkl,o',g',q1,q4,q6⟩
 refine ⟨π'.map fun x=>(bQ H (π.map Prod.fst) new E x.1 x.2).getD (0,0),S',v0,H',bV L,?_,fun k hk=>ZX k (r5 k hk),?_,r4,r6,r11,?_,?_,?_,?_⟩
 ·refine Ev1.of (out:=⟨ex,fr,E⟩) (l:=l) hT hF hb h1 ?_ ?_ he r1 ?_
  ·rw [hr1]
   simp only [Bool.and_eq_true,decide_eq_true_eq]
   exact ⟨List.all_eq_true.2 h2,by omega⟩
  ·rw [hr1,h3,hal,hpl]
   exact hrun
  ·rw [hr1]
   unfold wrap
   simp only [hK,hnew,hL]
   rw [if_pos (List.all_eq_true.2 fun k hk=>by rw [hbt k (hus k hk)];rfl)]
   rw [show (tags (aO l) ++ ay ((List.range (π.map Prod.fst).length).map (aX E)) ++ ay (new.map (aX E))).flatMap (dM L) = [] from List.flatMap_eq_nil_iff.2 fun k hk=>hgo k (hus k hk)]
   simp only [List.filter_nil,strike,hH',Option.some.injEq,Prod.mk.injEq,and_true]
   rw [r2,mY (ρ3:=eP (π'.map fun x=>(bQ H (π.map Prod.fst) new E x.1 x.2).getD (0,0))) (τ3:=bV L) Gw (fun _=>rfl)]
 ·refine ⟨by rw [List.length_map,r3.len],?_,?_⟩
  ·intro j k oj gj ok gk e1 e2 e
   obtain ⟨hj,o1,g1,p1,p2,p3⟩:=hat j oj gj e1
   obtain ⟨hk,o2,g2,p4,p5,p6⟩:=hat k ok gk e2
   refine Classical.byContradiction fun hne=>?_
   have ho:o1 ≠ o2:=fun e=>hne (r3.nd j k _ _ _ _ p1 p4 e)
   exact At.inj hnd hlt p3 p6 ho e
  ·intro k ob0 hk
   obtain ⟨o',g',ob',o'',g'',q1,q2,q3,q4,q5,q6,q7⟩:=hback k ob0 hk
   refine ⟨o'',g'',aT (bQ H (π.map Prod.fst) new E) (bV L) g'' ob',by rw [List.getElem?_map,q1];simp [q4],q5,⟨?_,rfl,q3.row,q3.ids,?_,?_,?_⟩⟩
   ·simp only [aT]
    rw [mY (ρ:=bQ H (π.map Prod.fst) new E) (ρ2:=idN) (τ:=bV L) (τ2:=tz) (ρ3:=bQ H (π.map Prod.fst) new E) (τ3:=tz) (fun o g=>by cases bQ H (π.map Prod.fst) new E o g <;> rfl) (fun _=>rfl)]
    rw [← mY (ρ:=idN) (τ:=tz) (ρ2:=bQ H (π.map Prod.fst) new E) (τ2:=tz) (ρ3:=bQ H (π.map Prod.fst) new E) (τ3:=tz) (fun o g=>rfl) (fun _=>rfl) ob'.p]
    rw [q3.p]
    exact mY Gw (fun _=>rfl) ob0.p
   ·intro hr
    obtain ⟨b1,b2,b3⟩:=q3.bx hr
    refine ⟨b1,b2,?_⟩
    by_cases hkS:k < S.length
    ·obtain ⟨g,hg⟩:=r8 k hkS
     rw [q1] at hg
     simp only [Option.some.injEq,Prod.mk.injEq] at hg
     obtain ⟨rfl,rfl⟩:=hg
     obtain ⟨o0,g0,ob1,s1,s2,s3⟩:=hI.at' hkS
     have hrow:=r9 o' _ _ (List.getElem?_eq_getElem hkS) hk
     have hg0:=(s3.bx (by rw [← hrow];exact hr)).2.2
     rw [q7 (by rw [hpl];exact hkS)]
     unfold fG
     rw [Img.sW s1]
     have:aX H o0 = some ob1:=by simp [aX,s2]
     simp only [this,s3.gen,hg0,q3.gen,b3,if_true]
    ·have:=(VL k (by omega) (List.getElem?_eq_some_iff.1 hk).1).2
     rw [jw q1] at this
     unfold bQ at q4
     split at q4
     ·rw [hpl,if_neg (by omega)] at q4
      cases hx:idxOf new o' H.length with
      | none=>rw [hx] at q4;cases q4
      | some x=>rw [hx] at q4;simp at q4;exact q4.2.symm
     ·cases q4
   ·exact ZX _ q3.tg
   ·intro x hx
    simp only [aT] at hx
    rw [jH] at hx
    obtain ⟨y,hy,rfl⟩:=List.mem_map.1 hx
    exact ZX y (q3.tp y hy)
 ·rw [← hH',List.length_append,jo];omega
 ·intro k o g hk
  have hkS:k < S.length:=by
   rw [← hI.len]
   exact (List.getElem?_eq_some_iff.1 hk).1
  obtain ⟨o',g',ob',o'',g'',q1,q2,q3,q4,q5,q6,q7⟩:=hback k _ (List.getElem?_eq_getElem (show k < S'.length by omega))
  refine ⟨g'',?_⟩
  rw [List.getElem?_map,q1]
  obtain ⟨g2,hg2⟩:=r8 k hkS
  rw [q1] at hg2
  simp only [Option.some.injEq,Prod.mk.injEq] at hg2
  obtain ⟨rfl,rfl⟩:=hg2
  simp only [Option.map_some,q4,Option.getD_some,Option.some.injEq,Prod.mk.injEq,and_true]
  rcases q6 with ⟨_,h8⟩ | ⟨h8,_⟩
  ·rw [Img.sW hk] at h8
   exact (Option.some.inj h8).symm
  ·rw [hpl] at h8;omega
 ·intro k o g hk ho
  obtain ⟨hkl,o',g',p1,p2,p3⟩:=hat k o g ho
  have:=(VL k hk hkl).2
  rw [jw p1] at this
  rcases p3 with ⟨h8,_⟩ | ⟨_,i,_,h8⟩
  ·rw [hpl] at h8;omega
  ·omega
 ·intro j hj hjn
  rw [← hH']
  refine VK hj ?_
  intro hm
  obtain ⟨x,hx,hx2⟩:=List.mem_map.1 hm
  obtain ⟨k,hk,hk2⟩:=List.mem_iff_getElem.1 hx
  exact hjn k x.1 x.2 (by rw [List.getElem?_eq_getElem hk,hk2]) hx2.symm
end
end Go.AM
namespace Go.AM
theorem eY {α:Type} {H:List α} {j:Nat} {y:α} (h:H[j]? = some y):j < H.length:=(List.getElem?_eq_some_iff.1 h).1
theorem setAt {α:Type} {H:List α} {j:Nat} {y x:α} (h:H[j]? = some y):(H.set j x)[j]? = some x:=by
 rw [List.getElem?_set_self (eY h)]
theorem wB {α:Type} {H:List α} {j k:Nat} {y x:α} (h:H[j]? = some y) (hne:k ≠ j):(H.set k x)[j]? = some y:=by
 rw [List.getElem?_set_ne hne];exact h
section
variable {x p:AV}
theorem Xi {o i f g:Nat} (h:ren idN tz x = .ptr o i f g):x = .ptr o i f g:=by
 cases x <;> simp only [ren,idN,reduceCtorEq] at h <;> exact h
theorem Ez {o i f g:Nat} (h:ren idN tz x = .sl o i f g):x = .sl o i f g:=by
 cases x <;> simp only [ren,idN,reduceCtorEq] at h <;> exact h
theorem X0 {o g:Nat} (h:ren idN tz x = .map o g):x = .map o g:=by
 cases x <;> simp only [ren,idN,reduceCtorEq] at h <;> exact h
theorem rU {k:IntKind} {n:Int} (h:ren idN tz x = .int k n):x = .int k n:=by
 cases x <;> simp only [ren,idN,reduceCtorEq] at h <;> exact h
theorem JF {l:List UInt8} (h:ren idN tz x = .pb l):x = .pb l:=by
 cases x <;> simp only [ren,idN,reduceCtorEq] at h <;> exact h
theorem ZY {k:IntKind} {l:List Int} (h:ren idN tz x = .pi k l):x = .pi k l:=by
 cases x <;> simp only [ren,idN,reduceCtorEq] at h <;> exact h
theorem yM {c t:Nat} (h:ren idN tz x = .ro c p t):∃ τ,x = .ro c p τ:=by
 cases x <;> simp only [ren,idN,reduceCtorEq,AV.ro.injEq] at h
 obtain ⟨rfl,rfl,_⟩:=h
 exact ⟨_,rfl⟩
theorem yL {l:List AV} (h:ren idN tz x = .pc l):∃ l',x = .pc l'∧bn idN tz l' = l:=by
 cases x <;> simp only [ren,idN,reduceCtorEq,AV.pc.injEq] at h
 exact ⟨_,rfl,h⟩
theorem Z4 {l:List AV} (h:ren idN tz x = .pm l):∃ l',x = .pm l'∧bn idN tz l' = l:=by
 cases x <;> simp only [ren,idN,reduceCtorEq,AV.pm.injEq] at h
 exact ⟨_,rfl,h⟩
theorem fZ {a:AV} {l r:List AV} (h:bn idN tz l = a :: r):∃ x l',l = x :: l'∧ren idN tz x = a∧bn idN tz l' = r:=by
 cases l with
 | nil=>simp [bn] at h
 | cons x l' =>
  simp only [bn,List.cons.injEq] at h
  exact ⟨x,l',rfl,h.1,h.2⟩
theorem ql {l:List AV} (h:bn idN tz l = []):l = []:=by
 cases l with
 | nil=>rfl
 | cons x l'=>simp [bn] at h
end
def rC (H:Heap):AV→Nat
 | .ro c _ _=>c
 | .sl o _ _ g=>match live H o g with
  | some ob=>if ob.z = 0∧ah ob.p = 0 then 0 else 2
  | none=>0
 | _=>0
section
variable {C:Ctx} {f:Nat} {H:Heap} {π:List (Nat × Nat)} {K i:Nat} {xs ys:List AV}
theorem fK.UR {a p:AV} (hrw:C.rw f i = false) (ha:dP H a = some p) (hi:ids p = []) (hd:disjoint (slO a) (π.map Prod.fst) = true) (h:fK C f H π K (i + 1) xs ys):fK C f H π K i (a :: xs) (.ro (rC H a) p (i + 1) :: ys):=by
 obtain ⟨as,aK,h1,h2,h3,h4,h5,h6,h7⟩:=h
 have key:∃ x,dS H (i + 1) a = some (.ro (rC H a) p (i + 1),x)∧x.objs = slO a:=by
  cases a <;> simp only [dP,reduceCtorEq] at ha
  case ro c q t' =>
   simp only [Option.some.injEq] at ha
   subst ha
   exact ⟨_,rfl,rfl⟩
  case sl o off len g =>
   split at ha
   ·rename_i ob hl
    split at ha
    ·cases ha
    ·rename_i hb
     exact ⟨⟨[o],[ob.tg]⟩,by simp [dS,dN,hl,hb,ha,rC],rfl⟩
   ·cases ha
 obtain ⟨x,hx,hxo⟩:=key
 refine ⟨.ro (rC H a) p (i + 1) :: as,x :: aK,by simp only [aG,hrw,hx,h1],?_,by simp [bn,ren,h3],by simp [aA,ids,h4],by simpa [aA,ids] using h5,by simp [h6],by simp [h7]⟩
 intro y hy
 rcases List.mem_cons.1 hy with rfl | hy
 ·rw [hxo];exact hd
 ·exact h2 y hy
end
theorem Leaves.plain {C:Ctx} {rs:List ResultVar} {n:Nat} {S S':List Obj} {Q:List Obj→AV→Prop} {fr:Frame} {E:Heap} {π':List (Nat × Nat)} {l:List AV}
  (hr:aP C fr E rs = some l) (hi:aA l = []) (ht:aU l = []) (hnt:eU l = true) (hI:Img n E π' S') (hok:OkS S') (hl:S.length≤S'.length)
  (hf:∀ k:Nat,k < S.length→∃ g,π'[k]? = some (k,g)) (hrow:∀ (k:Nat) (ob ob':Obj),S[k]? = some ob→S'[k]? = some ob'→ob'.row = ob.row)
  (hR:∀ k,S.length≤k→k < S'.length→k ∈ reach (S'.map some) aB (List.range S.length) []) (hq:Q S' (aO l)):Leaves C rs n S Q fr E:=by
 have h1:ids (aO l) = []:=by rw [lq hnt];exact hi
 have h2:tags (aO l) = []:=by rw [jW hnt];exact ht
 exact ⟨π',S',aO l,l,hr,(jc _ h1 (fun _ _=>rfl)).symm,hI,hok,(by simp [h2]),by simp [h1],hl,hf,hrow,fun k a b=>by rw [h1,List.append_nil];exact hR k a b,hq⟩
end Go.AM
namespace Go.AM
def JG (t:Nat) (H:Heap) (π0:List (Nat × Nat)):List (Nat × Nat)→List Obj→Prop
 | [],[]=>True
 | x :: r,ob0 :: S=>(∃ ob,H[x.1]? = some (some ob)∧Like t π0 x.2 ob0 ob)∧JG t H π0 r S
 | _,_=>False
theorem JG.at' {t:Nat} {H:Heap} {π0:List (Nat × Nat)}:∀ {π:List (Nat × Nat)} {S:List Obj},JG t H π0 π S→∀ (k:Nat) (ob0:Obj),S[k]? = some ob0→∃ o g ob,π[k]? = some (o,g)∧H[o]? = some (some ob)∧Like t π0 g ob0 ob
 | [],[],_,k,ob0,hk=>by simp at hk
 | x :: r,ob1 :: S,h,0,ob0,hk=>by
  obtain ⟨⟨ob,h1,h2⟩,_⟩:=h
  simp at hk
  subst hk
  exact ⟨x.1,x.2,ob,rfl,h1,h2⟩
 | x :: r,ob1 :: S,h,k + 1,ob0,hk=>by
  simpa using JG.at' h.2 k ob0 (by simpa using hk)
 | [],_ :: _,h,_,_,_=>h.elim
 | _ :: _,[],h,_,_,_=>h.elim
theorem JG.len {t:Nat} {H:Heap} {π0:List (Nat × Nat)}:∀ {π:List (Nat × Nat)} {S:List Obj},JG t H π0 π S→π.length = S.length
 | [],[],_=>rfl
 | x :: r,ob1 :: S,h=>by rw [List.length_cons,List.length_cons,JG.len h.2]
 | [],_ :: _,h=>h.elim
 | _ :: _,[],h=>h.elim
theorem Img.ofL {t:Nat} {H:Heap} {π:List (Nat × Nat)} {S:List Obj} (h:JG t H π π S) (hn:(π.map Prod.fst).Nodup):Img t H π S where
 len:=h.len
 nd:=by
  intro j k oj gj ok gk h1 h2 e
  subst e
  have e1:=Img.sW h1
  have e2:=Img.sW h2
  obtain ⟨l1,e1⟩:=List.getElem?_eq_some_iff.1 e1
  obtain ⟨l2,e2⟩:=List.getElem?_eq_some_iff.1 e2
  exact (List.getElem_inj hn).1 (e1.trans e2.symm)
 ob:=h.at'
theorem Like.box {t:Nat} {π:List (Nat × Nat)} {g:Nat} {p0:AV} {cap:Option Nat} {z:Nat} {idb:Bool} {tg0:Nat} {ob:Obj} (h:Like t π g ⟨p0,0,cap,z,false,idb,tg0⟩ ob):g = 0∧∃ p τ,ob = ⟨p,0,cap,z,false,idb,τ⟩∧(τ = 0∨τ = t)∧ren idN tz p = ren (eP π) tz p0∧∀ k ∈ tags p,k = 0∨k = t:=by
 obtain ⟨h1,h2,h3,h4,h5,h6,h7⟩:=h
 obtain ⟨e1,e2,e3⟩:=h5 rfl
 subst e3
 obtain ⟨p,g,cap',z',row,anH,tg⟩:=ob
 simp only at h2 h3 h4 h6 e1 e2 h1 h7
 subst h2 h3 h4 e1 e2
 exact ⟨rfl,p,tg,rfl,h6,h1,h7⟩
theorem Like.jl {t:Nat} {π:List (Nat × Nat)} {p p0:AV} {cap:Option Nat} {z:Nat} {idb:Bool} {tg0 τ:Nat} (h:ren idN tz p = ren (eP π) tz p0) (hτ:τ = 0∨τ = t) (ht:∀ k ∈ tags p,k = 0∨k = t):Like t π 0 ⟨p0,0,cap,z,false,idb,tg0⟩ ⟨p,0,cap,z,false,idb,τ⟩ :=
 ⟨h,rfl,rfl,rfl,fun _=>⟨rfl,rfl,rfl⟩,hτ,ht⟩
theorem Like.row' {t:Nat} {π:List (Nat × Nat)} {g:Nat} {p0:AV} {cap:Option Nat} {z g0:Nat} {tg0:Nat} {ob:Obj} (h:Like t π g ⟨p0,g0,cap,z,true,false,tg0⟩ ob) (hp:mX p0 = true):RwT p0 g ob.tg ob∧(ob.tg = 0∨ob.tg = t):=by
 refine ⟨⟨?_,h.gen,h.row,h.ids,rfl⟩,h.tg⟩
 have:=h.p
 cases p0 <;> simp only [mX,Bool.false_eq_true] at hp
 case pb l=>exact JF this
 case pi k l=>exact ZY this
 case pn =>
  cases hq:ob.p <;> rw [hq] at this <;> simp only [ren,idN,reduceCtorEq] at this
theorem Like.ofRow {t:Nat} {π:List (Nat × Nat)} {g τ:Nat} {p0:AV} {cap:Option Nat} {z g0:Nat} {tg0:Nat} {ob:Obj} (h:RwT p0 g τ ob) (hp:mX p0 = true) (hτ:τ = 0∨τ = t):Like t π g ⟨p0,g0,cap,z,true,false,tg0⟩ ob:=by
 refine ⟨?_,h.g,h.row,h.ids,(fun h=>by cases h),(by rw [h.tg];exact hτ),?_⟩
 ·rw [h.p]
  show ren idN tz p0 = ren (eP π) tz p0
  cases p0 <;> simp only [mX,Bool.false_eq_true] at hp <;> rfl
 ·rw [h.p]
  intro k hk
  cases p0 <;> simp only [mX,Bool.false_eq_true] at hp <;> simp [tags] at hk
end Go.AM
namespace Go.AM
def kids (ob:Obj):List Nat:=if ob.ids then ids ob.p else []
def wtF (acc:List Nat):Nat→List Obj→Nat
 | _,[]=>0
 | i,ob :: r=>(if i ∈ acc then 0 else (kids ob).length) + wtF acc (i + 1) r
theorem MX {acc:List Nat} {o:Nat}:∀ (S:List Obj) (i:Nat),o < i→wtF (acc ++ [o]) i S = wtF acc i S
 | [],_,_=>rfl
 | ob :: r,i,h=>by
  unfold wtF
  rw [MX r (i + 1) (by omega)]
  have:(i ∈ acc ++ [o]) ↔ i ∈ acc:=by simp;omega
  simp only [this]
theorem QW {acc:List Nat} {o:Nat} (ho:o ∉ acc):∀ (S:List Obj) (i:Nat) (ob:Obj),i≤o→S[o - i]? = some ob→wtF (acc ++ [o]) i S + (kids ob).length = wtF acc i S
 | [],_,_,_,h=>by simp at h
 | x :: r,i,ob,hi,h=>by
  by_cases he:i = o
  ·subst he
   simp at h
   subst h
   unfold wtF
   rw [MX r (i + 1) (by omega),if_pos (by simp),if_neg ho]
   omega
  ·have h2:r[o - (i + 1)]? = some ob:=by
    rw [show o - i = (o - (i + 1)) + 1 by omega] at h
    simpa using h
   have:=QW ho r (i + 1) ob (by omega) h2
   unfold wtF
   have h3:(i ∈ acc ++ [o]) ↔ i ∈ acc:=by simp;omega
   simp only [h3]
   omega
theorem qY {S:List Obj}:∀ (n:Nat) (l acc:List Nat),l.length + wtF acc 0 S≤n →
  (∀ x ∈ acc,x ∈ reach (S.map some) n l acc)∧(∀ x ∈ l,x < S.length→x ∈ reach (S.map some) n l acc)∧(∀ x ob,x ∈ reach (S.map some) n l acc→x ∉ acc→S[x]? = some ob→∀ y ∈ kids ob,y < S.length→y ∈ reach (S.map some) n l acc)
 | 0,[],acc,_=>⟨fun x h=>h,fun x h=>(by cases h),fun x ob h h2=>absurd h h2⟩
 | 0,o :: r,acc,h=>by simp at h
 | n + 1,[],acc,_=>⟨fun x h=>h,fun x h=>(by cases h),fun x ob h h2=>absurd h h2⟩
 | n + 1,o :: r,acc,h=>by
  simp only [List.length_cons] at h
  simp only [reach]
  by_cases hm:acc.contains o = true
  ·rw [if_pos hm]
   obtain ⟨h1,h2,h3⟩:=qY (S:=S) n r acc (by omega)
   refine ⟨h1,fun x hx hl=>?_,h3⟩
   rcases List.mem_cons.1 hx with rfl | hx
   ·exact h1 x (by simpa using hm)
   ·exact h2 x hx hl
  ·rw [if_neg hm]
   have hma:o ∉ acc:=by simpa using hm
   by_cases hl:o < S.length
   ·have hS:(S.map some)[o]? = some (some S[o]):=by rw [List.getElem?_map,List.getElem?_eq_getElem hl];rfl
    rw [hS]
    simp only
    have hw:=QW hma S 0 S[o] (by omega) (by simp)
    obtain ⟨h1,h2,h3⟩:=qY (S:=S) n (kids S[o] ++ r) (acc ++ [o]) (by simp only [List.length_append];omega)
    unfold kids at h1 h2 h3
    refine ⟨fun x hx=>h1 x (by simp [hx]),fun x hx hxl=>?_,fun x ob hx hxa hob y hy hyl=>?_⟩
    ·rcases List.mem_cons.1 hx with rfl | hx
     ·exact h1 x (by simp)
     ·exact h2 x (by simp [hx]) hxl
    ·by_cases hxo:x = o
     ·subst hxo
      rw [List.getElem?_eq_getElem hl] at hob
      obtain rfl:=Option.some.inj hob
      exact h2 y (List.mem_append_left _ hy) hyl
     ·exact h3 x ob hx (by simp [hxa,hxo]) hob y hy hyl
   ·have hS:(S.map some)[o]? = none:=List.getElem?_eq_none (by simpa using hl)
    rw [hS]
    simp only
    obtain ⟨h1,h2,h3⟩:=qY (S:=S) n r acc (by omega)
    refine ⟨h1,fun x hx hxl=>?_,h3⟩
    rcases List.mem_cons.1 hx with rfl | hx
    ·exact absurd hxl hl
    ·exact h2 x hx hxl
theorem uO {S:List Obj} {l:List Nat} (h:l.length + wtF [] 0 S≤aB) {x:Nat} (hx:x ∈ l) (hl:x < S.length):x ∈ reach (S.map some) aB l []:=(qY (S:=S) _ _ _ h).2.1 x hx hl
theorem Hw {S:List Obj} {l:List Nat} (h:l.length + wtF [] 0 S≤aB) {x y:Nat} {ob:Obj} (hx:x ∈ reach (S.map some) aB l []) (hob:S[x]? = some ob) (hy:y ∈ kids ob) (hl:y < S.length):y ∈ reach (S.map some) aB l []:=(qY (S:=S) _ _ _ h).2.2 x ob hx (by simp) hob y hy hl
end Go.AM
namespace Go.AM
section
variable {ρ:Nat→Nat→Option (Nat × Nat)} {τ:Nat→Nat} {σ:Nat→Nat}
mutual
theorem JH (h:∀ o g,∃ g',ρ o g = some (σ o,g')):(v:AV)→AM.ids (ren ρ τ v) = (AM.ids v).map σ
 | .ptr o i f g=>by obtain ⟨g',e⟩:=h o g;simp [ren,e,AM.ids]
 | .sl o i f g=>by obtain ⟨g',e⟩:=h o g;simp [ren,e,AM.ids]
 | .map o g=>by obtain ⟨g',e⟩:=h o g;simp [ren,e,AM.ids]
 | .ro c p t=>rfl
 | .iW p i f t=>rfl
 | .agg p=>by simp only [ren,AM.ids,JH h p]
 | .tup l=>by simp only [ren,AM.ids,um h l]
 | .fn f l=>by simp only [ren,AM.ids,um h l]
 | .pc l=>by simp only [ren,AM.ids,um h l]
 | .pr e l=>by simp only [ren,AM.ids,um h l]
 | .pm l=>by simp only [ren,AM.ids,um h l]
 | .top=>rfl
 | .bool _=>rfl
 | .int _ _=>rfl
 | .str _=>rfl
 | .gK=>rfl
 | .jD=>rfl
 | .iD=>rfl
 | .pn=>rfl
 | .pb _=>rfl
 | .pi _ _=>rfl
theorem um (h:∀ o g,∃ g',ρ o g = some (σ o,g')):(l:List AV)→aA (bn ρ τ l) = (aA l).map σ
 | []=>rfl
 | a :: r=>by simp only [bn,aA,JH h a,um h r,List.map_append]
end
theorem Td (d:Nat) (v:AV):AM.ids (dh d v) = (AM.ids v).map (· + d):=JH (fun o g=>⟨g,rfl⟩) v
theorem EL (d:Nat) (v:AV):tags (dh d v) = tags v:=by unfold dh;rw [jH];simp
theorem Tf {π ex:List (Nat × Nat)} {τ:Nat→Nat} {d:Nat} (hd:π.length = d) (v:AV):ren (eP (π ++ ex)) τ (dh d v) = ren (eP ex) τ v:=by
 refine mY (fun o g=>?_) (fun _=>rfl) v
 show (π ++ ex)[o + d]? = ex[o]?
 rw [List.getElem?_append_right (by omega)]
 congr 1
 omega
theorem OQ {π:List (Nat × Nat)} {τ:Nat→Nat} {d:Nat} (v:AV):ren (eP π) τ (dh d v) = ren (eP (π.drop d)) τ v:=by
 refine mY (fun o g=>?_) (fun _=>rfl) v
 show π[o + d]? = (π.drop d)[o]?
 rw [List.getElem?_drop,Nat.add_comm]
end
theorem Like.agx {t:Nat} {π:List (Nat × Nat)} {g:Nat} {p0:AV} {cap:Option Nat} {z g0:Nat} {tg0:Nat} {ob:Obj} (h:Like t π g ⟨p0,g0,cap,z,true,false,tg0⟩ ob) (hi:AM.ids p0 = []) (ht:tags p0 = []):RwT p0 g ob.tg ob∧(ob.tg = 0∨ob.tg = t):=by
 refine ⟨⟨?_,h.gen,h.row,h.ids,rfl⟩,h.tg⟩
 have h1:ren idN tz ob.p = p0:=by
  rw [h.p]
  show ren (eP π) tz p0 = p0
  exact jc p0 hi (by simp [ht])
 have h2:AM.ids ob.p = []:=by
  have:=QT.qX (τ:=tz) ob.p
  rw [← this]
  show AM.ids (ren idN tz ob.p) = []
  rw [h1];exact hi
 have h3:tags ob.p = []:=by
  have:=jH (ρ:=idN) (τ:=tz) ob.p
  rw [h1,ht] at this
  exact List.map_eq_nil_iff.1 this.symm
 rw [jc ob.p h2 (by simp [h3])] at h1
 exact h1
theorem Like.VN {t:Nat} {π:List (Nat × Nat)} {g τ:Nat} {p0:AV} {cap:Option Nat} {z g0:Nat} {tg0:Nat} {ob:Obj} (h:RwT p0 g τ ob) (hi:AM.ids p0 = []) (ht:tags p0 = []) (hτ:τ = 0∨τ = t):Like t π g ⟨p0,g0,cap,z,true,false,tg0⟩ ob:=by
 refine ⟨?_,h.g,h.row,h.ids,(fun h=>by cases h),(by rw [h.tg];exact hτ),?_⟩
 ·rw [h.p]
  show ren idN tz p0 = ren (eP π) tz p0
  rw [jc p0 hi (by simp [ht]),jc p0 hi (by simp [ht])]
 ·rw [h.p,ht];simp
def rwF (p:AV):Obj:=⟨p,0,none,0,true,false,0⟩
def eu (t:Nat) (H:Heap):List (Nat × Nat)→List AV→Prop
 | [],[]=>True
 | x :: r,p :: ps=>(∃ τ ob,(τ = 0∨τ = t)∧H[x.1]? = some (some ob)∧RwT p x.2 τ ob)∧eu t H r ps
 | _,_=>False
theorem eu.len {t:Nat} {H:Heap}:∀ {ex:List (Nat × Nat)} {ps:List AV},eu t H ex ps→ex.length = ps.length
 | [],[],_=>rfl
 | x :: r,p :: ps,h=>by rw [List.length_cons,List.length_cons,eu.len h.2]
 | [],_ :: _,h=>h.elim
 | _ :: _,[],h=>h.elim
theorem eu.at' {t:Nat} {H:Heap}:∀ {ex:List (Nat × Nat)} {ps:List AV},eu t H ex ps→∀ (k:Nat) (p:AV),ps[k]? = some p→∃ o g τ ob,ex[k]? = some (o,g)∧(τ = 0∨τ = t)∧H[o]? = some (some ob)∧RwT p g τ ob
 | [],[],_,k,p,hk=>by simp at hk
 | x :: r,q :: ps,h,0,p,hk=>by
  obtain ⟨⟨τ,ob,h1,h2,h3⟩,_⟩:=h
  simp at hk
  subst hk
  exact ⟨x.1,x.2,τ,ob,rfl,h1,h2,h3⟩
 | x :: r,q :: ps,h,k + 1,p,hk=>by simpa using eu.at' h.2 k p (by simpa using hk)
 | [],_ :: _,h,_,_,_=>h.elim
 | _ :: _,[],h,_,_,_=>h.elim
theorem eu.of {t:Nat} {H:Heap}:∀ {ex:List (Nat × Nat)} {ps:List AV},ex.length = ps.length→(∀ (k:Nat) (p:AV),ps[k]? = some p→∃ o g τ ob,ex[k]? = some (o,g)∧(τ = 0∨τ = t)∧H[o]? = some (some ob)∧RwT p g τ ob)→eu t H ex ps
 | [],[],_,_=>trivial
 | x :: r,q :: ps,hl,h=>by
  refine ⟨?_,eu.of (by simpa using hl) fun k p hk=>by simpa using h (k + 1) p (by simpa using hk)⟩
  obtain ⟨o,g,τ,ob,h1,h2,h3,h4⟩:=h 0 q rfl
  simp at h1
  subst h1
  exact ⟨τ,ob,h2,h3,h4⟩
 | [],_ :: _,hl,_=>by simp at hl
 | _ :: _,[],hl,_=>by simp at hl
theorem eu.keep {t:Nat} {H H':Heap}:∀ {ex:List (Nat × Nat)} {ps:List AV},eu t H ex ps→(∀ x ∈ ex,H'[x.1]? = H[x.1]?)→eu t H' ex ps
 | [],[],_,_=>trivial
 | x :: r,p :: ps,h,hk=>by
  obtain ⟨⟨τ,ob,h1,h2,h3⟩,h4⟩:=h
  exact ⟨⟨τ,ob,h1,by rw [hk x (List.mem_cons_self ..)];exact h2,h3⟩,eu.keep h4 fun y hy=>hk y (List.mem_cons_of_mem _ hy)⟩
 | [],_ :: _,h,_=>h.elim
 | _ :: _,[],h,_=>h.elim
theorem eu.lt {t:Nat} {H:Heap} {ex:List (Nat × Nat)} {ps:List AV} (h:eu t H ex ps):∀ x ∈ ex,x.1 < H.length:=by
 intro x hx
 obtain ⟨k,hk,rfl⟩:=List.mem_iff_getElem.1 hx
 have hl:=h.len
 obtain ⟨o,g,τ,ob,h1,_,h3,_⟩:=h.at' k ps[k] (List.getElem?_eq_getElem (by omega))
 rw [List.getElem?_eq_getElem hk] at h1
 rw [Option.some.inj h1]
 exact (List.getElem?_eq_some_iff.1 h3).1
section
variable {t:Nat} {H:Heap} {π ex:List (Nat × Nat)} {S:List Obj} {ps:List AV}
theorem Img.append (h:Img t H π S) (hok:OkS S) (hr:eu t H ex ps) (hf:∀ p ∈ ps,AM.ids p = []∧tags p = []) (hn:(π.map Prod.fst ++ ex.map Prod.fst).Nodup):Img t H (π ++ ex) (S ++ ps.map rwF) where
 len:=by simp [h.len,hr.len]
 nd:=by
  intro j k oj gj ok gk h1 h2 e
  subst e
  have e1:=Img.sW h1
  have e2:=Img.sW h2
  rw [List.map_append] at e1 e2
  obtain ⟨l1,e1⟩:=List.getElem?_eq_some_iff.1 e1
  obtain ⟨l2,e2⟩:=List.getElem?_eq_some_iff.1 e2
  exact (List.getElem_inj hn).1 (e1.trans e2.symm)
 ob:=by
  intro k ob0 hk
  by_cases hkl:k < S.length
  ·rw [List.getElem?_append_left hkl] at hk
   obtain ⟨o,g,ob,h1,h2,h3⟩:=h.ob k ob0 hk
   refine ⟨o,g,ob,by rw [List.getElem?_append_left (by rw [h.len];exact hkl)];exact h1,h2,⟨?_,h3.gen,h3.row,h3.ids,h3.bx,h3.tg,h3.tp⟩⟩
   rw [h3.p]
   refine gX _ (fun o' g' ho=>?_) fun _ _=>rfl
   have:=hok k ob0 hk o' ho
   unfold eP
   rw [List.getElem?_append_left (by rw [h.len];exact this)]
  ·rw [List.getElem?_append_right (by omega),List.getElem?_map] at hk
   cases hp:ps[k - S.length]? with
   | none=>rw [hp] at hk;cases hk
   | some p =>
    rw [hp] at hk
    obtain rfl:=Option.some.inj hk
    obtain ⟨o,g,τ,ob,h1,h2,h3,h4⟩:=hr.at' _ p hp
    obtain ⟨f1,f2⟩:=hf p (List.mem_of_getElem? hp)
    exact ⟨o,g,ob,by rw [List.getElem?_append_right (by rw [h.len];omega),h.len];exact h1,h3,Like.VN h4 f1 f2 h2⟩
theorem OkS.rows (hok:OkS S) (hf:∀ p ∈ ps,AM.ids p = []∧tags p = []):OkS (S ++ ps.map rwF):=by
 intro k ob0 hk o ho
 by_cases hkl:k < S.length
 ·rw [List.getElem?_append_left hkl] at hk
  have:=hok k ob0 hk o ho
  simp;omega
 ·rw [List.getElem?_append_right (by omega),List.getElem?_map] at hk
  cases hp:ps[k - S.length]? with
  | none=>rw [hp] at hk;cases hk
  | some p =>
   rw [hp] at hk
   obtain rfl:=Option.some.inj hk
   have:=(hf p (List.mem_of_getElem? hp)).1
   simp only [rwF] at ho
   rw [this] at ho
   cases ho
theorem Img.pre (h:Img t H π (S ++ ps.map rwF)) (hok:OkS S):Img t H (π.take S.length) S where
 len:=by have:=h.len;simp at this ⊢;omega
 nd:=by
  intro j k oj gj ok gk h1 h2 e
  rw [List.getElem?_take] at h1 h2
  split at h1
  ·split at h2
   ·exact h.nd j k _ _ _ _ h1 h2 e
   ·cases h2
  ·cases h1
 ob:=by
  intro k ob0 hk
  have hkl:=(List.getElem?_eq_some_iff.1 hk).1
  obtain ⟨o,g,ob,h1,h2,h3⟩:=h.ob k ob0 (by rw [List.getElem?_append_left hkl];exact hk)
  refine ⟨o,g,ob,by rw [List.getElem?_take,if_pos hkl];exact h1,h2,⟨?_,h3.gen,h3.row,h3.ids,h3.bx,h3.tg,h3.tp⟩⟩
  rw [h3.p]
  refine gX _ (fun o' g' ho=>?_) fun _ _=>rfl
  have:=hok k ob0 hk o' ho
  unfold eP
  rw [List.getElem?_take,if_pos this]
theorem Img.rows (h:Img t H π (S ++ ps.map rwF)) (hf:∀ p ∈ ps,AM.ids p = []∧tags p = []):eu t H (π.drop S.length) ps:=by
 refine eu.of ?_ ?_
 ·have:=h.len
  simp at this ⊢
  omega
 ·intro k p hk
  have hkl:=(List.getElem?_eq_some_iff.1 hk).1
  obtain ⟨o,g,ob,h1,h2,h3⟩:=h.ob (S.length + k) (rwF p) (by rw [List.getElem?_append_right (by omega),List.getElem?_map,show S.length + k - S.length = k by omega,hk];rfl)
  obtain ⟨f1,f2⟩:=hf p (List.mem_of_getElem? hk)
  obtain ⟨q1,q2⟩:=Like.agx h3 f1 f2
  exact ⟨o,g,ob.tg,ob,by rw [List.getElem?_drop];exact h1,q2,h2,q1⟩
theorem EK (acc:List Nat) (ps:List AV):∀ i,wtF acc i (ps.map rwF) = 0:=by
 induction ps with
 | nil=>intro i;rfl
 | cons p r ih =>
  intro i
  simp only [List.map_cons,wtF,ih]
  simp [kids,rwF]
theorem Jq (acc:List Nat):∀ (S R:List Obj) (i:Nat),wtF acc i (S ++ R) = wtF acc i S + wtF acc (i + S.length) R
 | [],R,i=>by simp [wtF]
 | x :: S,R,i=>by
  simp only [List.cons_append,wtF]
  rw [Jq acc S R (i + 1),List.length_cons,show i + 1 + S.length = i + (S.length + 1) by omega]
  omega
end
end Go.AM
namespace Go.AM
section
variable {C:Ctx} {T:Cf} {f:Nat} {H:Heap}
def X3 (C:Ctx) (rs:List ResultVar) (n:Nat) (Q:AV→List AV→Prop) (fr:Frame) (E:Heap):Prop :=
 ∃ l ex ps w0,aP C fr E rs = some l∧eu n E ex ps∧(∀ p ∈ ps,ids p = []∧tags p = [])∧(ex.map Prod.fst).Nodup∧(ids w0).length≤1000∧(∀ k ∈ ids w0,k < ex.length)∧(∀ k,k < ex.length→k ∈ ids w0)∧(∀ k ∈ tags w0,k = 0∨k = n)∧aO l = ren (eP ex) (fun t=>t) w0∧Q w0 ps
theorem Ev1.rows (hT:Below C T) {fn:Func} {c:Code} {n:Nat} {xs ys:List AV} {Q:AV→List AV→Prop}
  (hF:C.P.funcs[f]? = some fn) (hb:fn.body = some c) (hA:fK C f H [] 0 0 xs ys) (hi:aA ys = []) (hn:xs.length + 1 = n) (hng:n < dG)
  (run:aj (kE (X3 C fn.results.toList n Q)) C T f 0 c (numbered 0 (coerce C ys (aJ C f))) []) :
  ∃ H' w0 ex ps τf,Ev1 C f xs H (ren (eP ex) τf w0,H')∧(∀ k ∈ tags w0,τf k = 0)∧eu 0 H' ex ps∧(∀ x ∈ ex,H.length≤x.1)∧(ex.map Prod.fst).Nodup∧Q w0 ps∧H.length≤H'.length∧(∀ j,j < H.length→H'[j]? = H[j]?):=by
 have hI:∀ t,Img t H [] []:=fun t=>⟨rfl,fun j k oj gj ok gk h1 h2 e=>by simp at h1,fun k ob0 h=>by simp at h⟩
 obtain ⟨π'',S',v0,H',τf,hE,hτf,hI',hok',hid,⟨w0,ps,hS',hv0,hQ,hf⟩,hlen,hfix,hnew,hrest⟩:=Ev1.img (C:=C) (T:=T) (f:=f) (H:=H) (t:=0) (n:=n) (π:=[]) (S:=[]) (xs:=xs) (ys:=ys)
  (Q:=fun S' v0=>∃ w0 ps,S' = ps.map rwF∧v0 = w0∧Q w0 ps∧∀ p ∈ ps,ids p = []∧tags p = []) hT hF hb (hI 0) (fun k ob h=>by simp at h) hA
  (by rw [hi];rfl) hn hng (by
   intro E hEl hEI
   obtain rfl:E = []:=List.eq_nil_of_length_eq_zero hEl
   obtain ⟨out,hout,hrun⟩:=run
   refine ⟨out,⟨hout.1,?_⟩,hrun⟩
   obtain ⟨l,ex,ps,w0,hr,L6,hf,hnd,hw0,hw1,hw2,hw3,hw4,hQ⟩:=hout.2
   have Zu:=L6.len
   have hI0:Img n out.H [] []:=⟨rfl,fun j k oj gj ok gk h1 h2 e=>by simp at h1,fun k ob0 h=>by simp at h⟩
   have hI2:=hI0.append (fun k ob h=>by simp at h) L6 hf (by simpa using hnd)
   have hS:([]:List Obj) ++ ps.map rwF = ps.map rwF:=rfl
   rw [hS,List.nil_append] at hI2
   have hok2:OkS (ps.map rwF):=by
    have:=OkS.rows (S:=[]) (fun k ob h=>by simp at h) hf
    exact this
   refine ⟨ex,ps.map rwF,w0,l,hr,hw4,hI2,hok2,hw3,fun k hk=>by rw [List.length_map];have:=hw1 k hk;omega,Nat.zero_le _,fun k hk=>by simp at hk,fun k ob ob' h=>by simp at h,fun k h1 h2=>?_,w0,ps,rfl,rfl,hQ,hf⟩
   rw [List.length_map] at h2
   refine uO ?_ (List.mem_append_right _ (hw2 k (by omega))) (by rw [List.length_map];exact h2)
   rw [EK]
   simp only [List.length_nil,List.range_zero,List.nil_append]
   show _≤100000
   omega)
 subst hS' hv0
 have hR:=Img.rows (S:=[]) (ps:=ps) (by simpa using hI') hf
 rw [List.length_nil,List.drop_zero] at hR
 refine ⟨H',v0,π'',ps,τf,hE,fun k hk=>(hτf k hk).elim id id,hR,fun x hx=>?_,hI'.nodup,hQ,hlen,fun j hj=>hrest j hj fun k o g h=>by simp at h⟩
 obtain ⟨k,hk,rfl⟩:=List.mem_iff_getElem.1 hx
 exact hnew k _ _ (Nat.zero_le _) (List.getElem?_eq_getElem hk)
end
end Go.AM
namespace Go.AM
open Go
def BN (H:Heap):AV→Nat
 | .ro _ _ t=>t
 | .sl o _ _ g=>match live H o g with
  | some ob=>ob.tg
  | none=>0
 | _=>0
section
variable {C:Ctx} {H:Heap} {f:Nat} {T:Cf}
theorem Ht {k:Nat} {a p:AV} (ha:dP H a = some p):dS H k a = some (.ro (rC H a) p k,⟨slO a,[BN H a]⟩):=by
 cases a <;> simp only [dP,reduceCtorEq] at ha
 case ro c q t' =>
  simp only [Option.some.injEq] at ha
  subst ha
  rfl
 case sl o off len g =>
  split at ha
  ·rename_i ob hl
   split at ha
   ·cases ha
   ·rename_i hb
    simp [dS,dN,hl,hb,ha,rC,BN,slO]
  ·cases ha
theorem VO {aK:List fC} {v:AV} {H1:Heap} {o g k k':Nat} {ob:Obj} (hi:ids v = [o]) (ht:tags v = []) (hl:live H1 o g = some ob) (hob:ob.ids = false) (hp:ids ob.p = []) (hpt:tags ob.p = []) (hpm:∀ l,ob.p ≠ .pm l) (htg:ob.tg = k) (hb:dU aK k = some k') :
  wrap H [] aK v H1 = some (ren (fun o' g'=>if o' = o∧g' = g then some (H.length,0) else none) (fun t=>t) v,H ++ [some { ob with g:=0,tg:=k' }]):=by
 obtain ⟨h1,h2⟩:=bI.1 hl
 unfold wrap
 have hat:aX H1 o = some ob:=by simp [aX,h1]
 have hρ:ren (bQ H [] [o] H1) (bV aK) v = ren (fun o' g'=>if o' = o∧g' = g then some (H.length,0) else none) (fun t=>t) v:=by
  have key:∀ o' g',o' ∈ ids v→bQ H [] [o] H1 o' g' = if o' = o∧g' = g then some (H.length,0) else none:=by
   intro o' g' hm
   rw [hi] at hm
   simp only [List.mem_singleton] at hm
   subst hm
   unfold bQ
   by_cases hg:g' = g
   ·subst hg
    rw [hl]
    simp [idxOf]
   ·have:live H1 o' g' = none:=by
     simp only [live,h1]
     rw [if_neg (fun e=>hg (e.symm.trans h2))]
    rw [this]
    simp [hg]
  exact gX v (fun o' g' hm=>key o' g' hm) (by simp [ht])
 have hto:dF ob = [k]:=by
  unfold dF
  rw [hob,htg]
  cases hq:ob.p <;> first | rfl | exact absurd hq (hpm _)
 have hB1:bV aK k = k':=by unfold bV;rw [hb];rfl
 have htN:tq v = []:=List.eq_nil_iff_forall_not_mem.2 fun t h=>by have:=GR h;rw [ht] at this;cases this
 have agy:lZ ob = []:=by unfold lZ;rw [if_pos (by simp [hob,hpt])]
 have hfn:∀ l:List Nat,l.filter (fun o=>([]:List Nat).contains o) = []:=fun l=>by simp
 simp only [List.length_nil,List.range_zero,List.nil_append,hi,Ci h1 hob,ht,ay,cu,htN,agy,List.append_nil,List.map_nil,hat,hto,List.map_cons,Nat.zero_le,decide_true,List.filter_cons_of_pos,List.filter_nil,bW]
 simp only [List.all_cons,List.all_nil,hb,Option.isSome_some,Bool.and_true,if_true,List.flatMap_nil,hfn,strike,Option.map_some,Option.some.injEq,Prod.mk.injEq]
 refine ⟨hρ,?_⟩
 have hr:ren (bQ H [] [o] H1) (bV aK) ob.p = ob.p:=jc ob.p hp (by rw [hpt];simp)
 simp only [aT,hr,htg,hB1]
theorem Ev1.newT (hT:Below C T) {args xs:List AV} {aK:List fC} {fn:Func} {c:Code} {n tg0:Nat} {bo:List Nat} {p:AV} {rest:List AV}
  (hF:C.P.funcs[f]? = some fn) (hb:fn.body = some c) (hl:aG C f H 0 args = some (xs,aK)) (h0:aK[0]? = some ⟨bo,[tg0]⟩) (hi:aA xs = []) (hn:xs.length + 1 < dG) (hri:aA rest = []) (hrt:aU rest = []) (hnt:eU rest = true)
  (hpi:ids p = []) (hpt:tags p = []) (hpm:∀ l,p ≠ .pm l)
  (h:aj (qo fun fr H1=>∃ o g τ ob,(τ = 0∨τ = 1)∧aP C fr H1 fn.results.toList = some (.sl o 0 n g :: rest)∧H1[o]? = some (some ob)∧RwT p g τ ob) C T f 0 c (numbered 0 (coerce C xs (aJ C f))) []) :
  ∃ τ ob,Ev1 C f args H (aO (.sl H.length 0 n 0 :: rest),H ++ [some ob])∧RwT p 0 τ ob∧(τ = 0∨τ = tg0):=by
 obtain ⟨⟨ex,fr,H1⟩,⟨he,o,g,τ,ob,hτ,hr,ho,hw⟩,hrun⟩:=h
 simp only at he hr ho
 subst he
 have h0':(aK ++ [⟨[],ay (([]:List Nat).map (aX H))⟩])[0]? = some ⟨bo,[tg0]⟩:=by
  cases aK with
  | nil=>cases h0
  | cons x r=>exact h0
 have hbk:∃ k',dU (aK ++ [⟨[],ay (([]:List Nat).map (aX H))⟩]) τ = some k'∧(k' = 0∨k' = tg0):=by
  rcases hτ with rfl | rfl
  ·exact ⟨0,rfl,.inl rfl⟩
  ·refine ⟨tg0,?_,.inr rfl⟩
   unfold dU
   rw [if_neg (by omega),show 1 - 1 = 0 by omega,h0']
   simp [dO,eX]
   exact fun e=>e.symm
 obtain ⟨k',hk',hk2⟩:=hbk
 refine ⟨k',{ ob with g:=0,tg:=k' },?_,⟨hw.p,rfl,hw.row,hw.ids,rfl⟩,hk2⟩
 refine Ev1.of (out:=⟨.ret,fr,H1⟩) (l:=.sl o 0 n g :: rest) hT hF hb hl ?_ ?_ (.inr rfl) hr ?_
 ·rw [hi,dK]
  simp only [Bool.and_eq_true,decide_eq_true_eq]
  exact ⟨List.all_eq_true.2 fun x _=>ku x.objs,hn⟩
 ·rw [hi,dK,fE xs hi (fun _ _=>rfl)]
  exact hrun
 ·rw [hi,dK]
  rw [VO (o:=o) (g:=g) (k:=τ) (k':=k') (ob:=ob) (by rw [lq (l:=.sl o 0 n g :: rest) hnt];simp [aA,ids,hri]) (by rw [jW (l:=.sl o 0 n g :: rest) hnt];simp [aU,tags,hrt]) (by simp [live,ho,hw.g]) hw.ids (by rw [hw.p];exact hpi) (by rw [hw.p];exact hpt) (by rw [hw.p];exact hpm) hw.tg hk']
  rw [y8 (w:=.sl H.length 0 n 0) (by simp [ren]) (fE rest hri (fun t ht=>rfl)) (by exact hnt) (by exact hnt)]
theorem Ev1.bV (hT:Below C T) {args xs:List AV} {aK:List fC} {fn:Func} {c:Code} {tg0:Nat} {bo:List Nat} {l:List AV}
  (hF:C.P.funcs[f]? = some fn) (hb:fn.body = some c) (hl:aG C f H 0 args = some (xs,aK)) (h0:aK[0]? = some ⟨bo,[tg0]⟩) (hi:aA xs = []) (hn:xs.length + 1 < dG)
  (h:aj (qo fun fr H1=>aP C fr H1 fn.results.toList = some l) C T f 0 c (numbered 0 (coerce C xs (aJ C f))) [])
  (hv:ids (aO l) = []) (ht:∀ k ∈ tags (aO l),k = 0∨k = 1) (htN:tq (aO l) = []):Ev1 C f args H (ren (fun _ _=>none) (fun k=>if k = 1 then tg0 else 0) (aO l),H):=by
 obtain ⟨⟨ex,fr,H1⟩,⟨he,hr⟩,hrun⟩:=h
 simp only at he hr
 subst he
 have h0':(aK ++ [⟨[],ay (([]:List Nat).map (aX H))⟩])[0]? = some ⟨bo,[tg0]⟩:=by
  cases aK with
  | nil=>cases h0
  | cons x r=>exact h0
 have hbt:∀ k ∈ tags (aO l),dU (aK ++ [⟨[],ay (([]:List Nat).map (aX H))⟩]) k = some (if k = 1 then tg0 else 0):=by
  intro k hk
  rcases ht k hk with rfl | rfl
  ·rfl
  ·unfold dU
   rw [if_neg (by omega),show 1 - 1 = 0 by omega,h0',if_pos rfl]
   simp [dO,eX]
   exact fun e=>e.symm
 refine Ev1.of (out:=⟨.ret,fr,H1⟩) hT hF hb hl ?_ ?_ (.inr rfl) hr ?_
 ·rw [hi,dK]
  simp only [Bool.and_eq_true,decide_eq_true_eq]
  exact ⟨List.all_eq_true.2 fun x _=>ku x.objs,hn⟩
 ·rw [hi,dK,fE xs hi (fun _ _=>rfl)]
  exact hrun
 ·rw [hi,dK]
  clear h0'
  unfold wrap
  generalize (aK ++ [⟨[],ay (([]:List Nat).map (aX H))⟩]:List fC) = L at *
  have hfn:∀ l:List Nat,l.filter (fun o=>([]:List Nat).contains o) = []:=fun l=>by simp
  simp only [List.length_nil,List.range_zero,List.nil_append,hv,dK,List.filter_nil,List.map_nil,ay,cu,htN,List.append_nil,List.flatMap_nil,hfn]
  rw [if_pos (List.all_eq_true.2 fun k hk=>by rw [hbt k hk];rfl)]
  simp only [strike,bW,Option.some.injEq,Prod.mk.injEq,and_true]
  exact gX _ (fun o g h=>by rw [hv] at h;cases h) (fun k hk=>by unfold AM.bV;rw [hbt k hk];rfl)
end
end Go.AM
