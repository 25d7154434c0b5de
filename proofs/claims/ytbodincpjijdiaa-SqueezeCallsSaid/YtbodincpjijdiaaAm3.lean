/- The abstract machine, part 3: a deterministic evaluator for the program's code and the proof that what it tells is so. Conditions: none beyond the theorems' own. -/
import Derived.Attr
import Derived.ChangeCalls
import Derived.LaidHandle
import Derived.LaidLaws
import Derived.Lib.LaidTab
import Derived.MakeChecks
import Derived.ProofKit
import Derived.Stop.Joined
import Derived.Test.YtbodincpjijdiaaAm2
set_option linter.unusedSimpArgs false
set_option linter.unusedVariables false
set_option maxRecDepth 100000
set_option maxHeartbeats 8000000
namespace Go.AM
def II:Ex→Exit
 | .normal=>.normal
 | .exit id=>.exit id
 | .ret=>.ret
def Left (C:Ctx) (T:Nat→Nat→Prop) (m:Nat) (K0:Kx) (nt:Nat) (out:Out) (e:Exit) (a:Act) (w:World):Prop :=
 e = II out.ex∧Now C T m K0 nt out.fr out.H a w
theorem least {J:Nat→Prop} (h:∃ k,J k):∃ k,J k∧∀ j,J j→k≤j:=by
 obtain ⟨k,hk⟩:=h
 induction k using Nat.strongRecOn with
 | _ k ih =>
  by_cases hx:∃ j,j < k∧J j
  ·obtain ⟨j,h1,h2⟩:=hx
   exact ih j h1 h2
  ·exact ⟨k,hk,fun j hj=>Nat.le_of_not_lt fun h=>hx ⟨j,h,hj⟩⟩
open Classical in
noncomputable def Gs (J:Act→World→Nat→Prop) (a:Act) (w:World):Nat :=
 if h:∃ k,J a w k then Classical.choose (least h) else 0
theorem Ap {J:Act→World→Nat→Prop} {a:Act} {w:World} (h:∃ k,J a w k):J a w (Gs J a w)∧∀ j,J a w j→Gs J a w≤j:=by
 unfold Gs
 rw [dif_pos h]
 exact Classical.choose_spec (least h)
theorem Gt {P:Program} {Q:Exit→Act→World→Prop} {c:Code} {a:Act} {w:World} (J:Act→World→Nat→Prop) (n:Nat) (h0:J a w n)
  (round:∀ a w n,J a w n→c.wp P (Exit.then (fun a' w'=>∃ k,k < n∧J a' w' k) Q) a w):(Code.loop c).wp P Q a w:=by
 refine wp_loop (fun a w=>∃ k,J a w k) (Gs J) ⟨n,h0⟩ fun a w h=>?_
 obtain ⟨h1,h2⟩:=Ap h
 refine wp_mono (round a w _ h1) fun e a' w' hq=>?_
 cases e <;> simp only [Exit.then] at hq ⊢ <;> try exact hq
 obtain ⟨k,h3,h4⟩:=hq
 exact ⟨⟨k,h4⟩,Nat.lt_of_le_of_lt ((Ap ⟨k,h4⟩).2 k h4) h3⟩
section
variable {C:Ctx} {T:Nat→Nat→Prop} {m nt:Nat} {K0:Kx}
theorem nH {cf:Cf} (hcf:zI C cf) (hct:lS C cf) {f n:Nat} (rC:C.P.follows .mixedOrders = true):(c:Code)→jr C f c = true→∀ {fr:Frame} {H:Heap} {a:Act} {w:World} {out:Out},
  exec C cf f m n c fr H = some out→Now C T m K0 (fF C f) fr H a w→c.wp C.P (Left C T m K0 (fF C f) out) a w
 | .skip,_,fr,H,a,w,out,h,hN=>by
  simp only [exec,Option.some.injEq] at h
  subst h
  exact wp_skip ⟨rfl,hN⟩
 | .region id ops draw,hdr,fr,H,a,w,out,h,hN=>by
  simp only [exec] at h
  have hQ:∀ fr' H',out = iQ C f m id fr' H'→∀ a' w',Now C T m K0 (fF C f) fr' H' a' w'→Left C T m K0 (fF C f) out .normal a' w':=fun fr' H' e a' w' hN'=>by
   subst e
   obtain ⟨h1,h2⟩:=hN'.after f id
   exact ⟨by rw [h1];rfl,h2⟩
  split at h
  ·rename_i hdy
   simp only [Bool.and_eq_true] at hdy
   obtain ⟨rfl,hdy⟩:=hdy
   simp only [jr,Bool.not_true,hdy,if_true,Bool.false_or] at hdr
   split at h
   ·rename_i fr' H' ms hr
    split at h
    ·rename_i hok
     simp only [Option.some.injEq] at h
     rcases Bool.or_eq_true _ _ ▸ hok with hok | hok
     ·exact QM hcf hct rC hdr hr hok hN (hQ fr' H' h.symm)
     ·simp only [Bool.and_eq_true] at hok
      exact OO hcf hct rC hdr hok.1 hok.2 hr hN (hQ fr' H' h.symm)
    ·cases h
   ·cases h
  ·rename_i ajy
   split at h
   ·cases h
   ·rename_i hd
    split at h
    ·rename_i fr' H' hr
     simp only [Option.some.injEq] at h
     cases draw with
     | true =>
      have hid:C.dr f id = true:=by simpa using hd
      have hdy:C.dy f id = false:=by simpa using ajy
      simp only [jr,hid,hdy,Bool.not_true,Bool.false_or,Bool.false_eq_true,if_false] at hdr
      exact Us hcf hct rC hdr hr hN (hQ fr' H' h.symm)
     | false =>
      refine wp_region ?_
      have:=zJ hcf (Q:=Left C T m K0 (fF C f) out) ops.toList 0 rfl hr hN (hQ fr' H' h.symm)
      rwa [Array.length_toList,← List.range_eq_range'] at this
    ·cases h
 | .seq x y,hdr,fr,H,a,w,out,h,hN=>by
  simp only [jr,Bool.and_eq_true] at hdr
  obtain ⟨hd1,hd2⟩:=hdr
  simp only [exec] at h
  split at h
  ·rename_i fr' H' hx
   refine wp_seq (wp_mono (nH hcf hct rC x hd1 hx hN) fun e a' w' hl=>?_)
   obtain ⟨rfl,hN'⟩:=hl
   exact nH hcf hct rC y hd2 h hN'
  ·rename_i hne
   refine wp_seq (wp_mono (nH hcf hct rC x hd1 h hN) fun e a' w' hl=>?_)
   obtain ⟨rfl,hN'⟩:=hl
   cases hx:out.ex with
   | normal =>
    obtain ⟨ex,fr',H'⟩:=out
    simp only at hx
    subst hx
    exact absurd h (hne _ _)
   | exit id=>simp only [II,Exit.then];exact ⟨by rw [hx];rfl,hN'⟩
   | ret=>simp only [II,Exit.then];exact ⟨by rw [hx];rfl,hN'⟩
 | .cond c x y,hdr,fr,H,a,w,out,h,hN=>by
  simp only [jr,Bool.and_eq_true] at hdr
  obtain ⟨hd1,hd2⟩:=hdr
  simp only [exec] at h
  split at h
  ·rename_i d hd
   have hc:a.eval c = .bool d:=by
    obtain ⟨μ,hI,_,hf,_⟩:=hN
    have:=vM hI hf c
    rw [hd] at this
    simpa [ay,aB,aP,RV] using this
   refine wp_cond hc ?_
   cases d with
   | true=>exact nH hcf hct rC x hd1 h hN
   | false=>exact nH hcf hct rC y hd2 h hN
  ·cases h
 | .block id c,hdr,fr,H,a,w,out,h,hN=>by
  simp only [jr] at hdr
  simp only [exec] at h
  split at h
  ·rename_i id' fr' H' hx
   refine wp_block (wp_mono (nH hcf hct rC c hdr hx hN) fun e a' w' hl=>?_)
   obtain ⟨rfl,hN'⟩:=hl
   simp only [II,Exit.inBlock]
   split at h
   ·rename_i he
    simp only [Option.some.injEq] at h
    subst h
    rw [if_pos he]
    exact ⟨rfl,hN'⟩
   ·rename_i he
    simp only [Option.some.injEq] at h
    subst h
    rw [if_neg he]
    exact ⟨rfl,hN'⟩
  ·rename_i hne
   refine wp_block (wp_mono (nH hcf hct rC c hdr h hN) fun e a' w' hl=>?_)
   obtain ⟨rfl,hN'⟩:=hl
   cases hx:out.ex with
   | normal=>simp only [II,Exit.inBlock];exact ⟨by rw [hx];rfl,hN'⟩
   | exit id =>
    obtain ⟨ex,fr',H'⟩:=out
    simp only at hx
    subst hx
    exact absurd h (hne _ _ _)
   | ret=>simp only [II,Exit.inBlock];exact ⟨by rw [hx];rfl,hN'⟩
 | .loop c,hdr,fr,H,a,w,out,h,hN=>by
  simp only [jr] at hdr
  simp only [exec] at h
  refine Gt (fun a w k=>∃ fr H,nX (exec C cf f m n c) k fr H = some out∧Now C T m K0 (fF C f) fr H a w) n ⟨fr,H,h,hN⟩ ?_
  rintro a w k ⟨fr,H,hk,hN⟩
  cases k with
  | zero=>simp [nX] at hk
  | succ k =>
   simp only [nX] at hk
   split at hk
   ·rename_i fr' H' hx
    refine wp_mono (nH hcf hct rC c hdr hx hN) fun e a' w' hl=>?_
    obtain ⟨rfl,hN'⟩:=hl
    exact ⟨k,Nat.lt_succ_self k,fr',H',hk,hN'⟩
   ·rename_i hne
    refine wp_mono (nH hcf hct rC c hdr hk hN) fun e a' w' hl=>?_
    obtain ⟨rfl,hN'⟩:=hl
    cases hx:out.ex with
    | normal =>
     obtain ⟨ex,fr',H'⟩:=out
     simp only at hx
     subst hx
     exact absurd hk (hne _ _)
    | exit id=>simp only [II,Exit.then];exact ⟨by rw [hx];rfl,hN'⟩
    | ret=>simp only [II,Exit.then];exact ⟨by rw [hx];rfl,hN'⟩
 | .exit id,_,fr,H,a,w,out,h,hN=>by
  simp only [exec,Option.some.injEq] at h
  subst h
  exact wp_exit ⟨rfl,hN⟩
 | .ret,_,fr,H,a,w,out,h,hN=>by
  simp only [exec,Option.some.injEq] at h
  subst h
  exact wp_ret ⟨rfl,hN⟩
 | .scope ..,_,fr,H,a,w,out,h,hN=>by simp [exec] at h
 | .label ..,_,fr,H,a,w,out,h,hN=>by simp [exec] at h
 | .goto ..,_,fr,H,a,w,out,h,hN=>by simp [exec] at h
 | .refuse ..,_,fr,H,a,w,out,h,hN=>by simp [exec] at h
 | .rangeFunc ..,_,fr,H,a,w,out,h,hN=>by simp [exec] at h
end
structure Ez (C:Ctx):Prop where
 mix:C.P.follows .mixedOrders = true
 draws:∀ f fn c,C.P.funcs[f]? = some fn→fn.body = some c→jr C f c = true
section
variable {C:Ctx} {T:Nat→Nat→Prop} {K:Kx}
theorem OQ (hI:Inv C K T) {t:TypeId} {a x:AV} {v:Value} (hv:ay K T a v) (h:tu C K.H t a = some x) :
  ∃ u,(do loadVar t (← asAddr v):Sem Value).run C.P K.w = .ok u K.w∧ay K T x u:=by
 obtain ⟨u,h1,h2⟩:=IJ hI hv h
 refine ⟨u,?_,h2⟩
 have:∃ ad,v = .pointer (some ad):=by
  unfold tu at h
  split at h
  ·cases h
  ·split at h
   ·rename_i o i f g
    cases hl:live K.H o g with
    | none=>rw [hl] at h;cases h
    | some ob =>
     simp only [ay,aB,aP] at hv
     obtain ⟨h3,h4⟩:=bT.1 hl
     exact ⟨_,((hv.2.2 ob h3).2 h4).2⟩
   ·simp only [ay,aB] at hv
    obtain ⟨b,off,h3,_⟩:=hv
    exact ⟨_,h3⟩
   ·cases h
 obtain ⟨ad,rfl⟩:=this
 simp only [Instr.loadAt,Instr.sureAddr,Sem.run_bind,Sem.run_pure,Result.andThen_ok] at h1
 simp only [asAddr,Sem.run_bind,Sem.run_pure,Result.andThen_ok]
 exact h1
def Gu (tmps:Array Value):ResultVar→Sem Value
 | .tmp t=>pure (tmps.getD t undef)
 | .cell a t=>do loadVar t (← asAddr (tmps.getD a undef))
theorem uz (hI:Inv C K T) {fr:Frame} {tmps:Array Value} (hf:oD K T fr tmps):∀ {rs:List ResultVar} {l:List AV},aQ C fr K.H rs = some l →
  ∃ us,(rs.mapM (Gu tmps)).run C.P K.w = .ok us K.w∧dX K T l us
 | [],l,h=>by
  simp only [aQ,Option.some.injEq] at h
  subst h
  exact ⟨[],by simp [Sem.run_pure],trivial⟩
 | .tmp t :: r,l,h=>by
  simp only [aQ] at h
  cases hr:aQ C fr K.H r with
  | none=>rw [hr] at h;cases h
  | some l' =>
   rw [hr] at h
   simp only [Option.map_some,Option.some.injEq] at h
   subst h
   obtain ⟨us,h1,h2⟩:=uz hI hf hr
   exact ⟨tmps.getD t undef :: us,by simp only [List.mapM_cons,Gu,Sem.run_bind,Sem.run_pure,Result.andThen_ok,h1],hf t,h2⟩
 | .cell a t :: r,l,h=>by
  simp only [aQ] at h
  split at h
  ·rename_i x l' hx hr
   simp only [Option.some.injEq] at h
   subst h
   obtain ⟨us,h1,h2⟩:=uz hI hf hr
   obtain ⟨u,h3,h4⟩:=OQ hI (hf a) hx
   refine ⟨u :: us,?_,h4,h2⟩
   simp only [List.mapM_cons,Gu]
   rw [Sem.run_bind,h3]
   simp only [Result.andThen_ok,Sem.run_bind,h1,Sem.run_pure]
  ·cases h
theorem EG:∀ {l:List AV} {us:List Value},fU l = true→dX K T l us→us.length = l.length∧∀ (j:Nat) (a:AV),l[j]? = some a→∃ u,us[j]? = some u∧aB K T a u
 | [],us,_,h=>by rw [h.nil];simp
 | a :: r,us,hn,h=>by
  obtain ⟨v,s,rfl,h1,h2⟩:=h.cons
  have ha:aB K T a v∧fU r = true:=by cases a <;> first | exact ⟨h1,hn⟩ | (simp [fU] at hn;done)
  obtain ⟨h3,h4⟩:=EG ha.2 h2
  refine ⟨by simp [h3],fun j b hb=>?_⟩
  cases j with
  | zero =>
   simp only [List.getElem?_cons_zero,Option.some.injEq] at hb
   subst hb
   exact ⟨v,rfl,ha.1⟩
  | succ j=>exact h4 j b hb
theorem dX.len:∀ {l:List AV} {us:List Value},dX K T l us→us.length = l.length
 | [],us,h=>by simp [h.nil]
 | a :: r,us,h=>by
  obtain ⟨v,s,rfl,h1,h2⟩:=h.cons
  simp [h2.len]
theorem KT (hI:Inv C K T) {fr:Frame} {tmps:Array Value} (hf:oD K T fr tmps) {fn:Func} {l:List AV} (h:aQ C fr K.H fn.results.toList = some l) :
  ∃ v,(results fn tmps).run C.P K.w = .ok v K.w∧ay K T (aO l) v:=by
 obtain ⟨us,h1,h2⟩:=uz hI hf h
 have hlen:=h2.len
 refine ⟨if h:us.toArray.size = 1 then us.toArray[0] else .tuple us.toArray,?_,?_⟩
 ·have:results fn tmps = (do let vs ← fn.results.mapM (Gu tmps);pure (if h:vs.size = 1 then vs[0] else .tuple vs)):=rfl
  rw [this,Array.mapM_eq_mapM_toList]
  simp only [Sem.run_bind,map_eq_pure_bind,h1,Result.andThen_ok,Sem.run_pure]
 ·split
  ·rename_i hs
   simp only [List.size_toArray] at hs
   rw [hs] at hlen
   cases l with
   | nil=>simp at hlen
   | cons a r =>
    cases r with
    | nil =>
     obtain ⟨v,s,rfl,h3,h4⟩:=h2.cons
     exact h3
    | cons=>simp at hlen
  ·rename_i hs
   simp only [List.size_toArray] at hs
   have:aO l = if fU l then .tup l else .top:=by
    cases l with
    | nil=>rfl
    | cons a r =>
     cases r with
     | nil=>simp at hlen;exact absurd hlen hs
     | cons=>rfl
   rw [this]
   split
   ·rename_i hn
    obtain ⟨h3,h4⟩:=EG hn h2
    simp only [ay]
    exact ⟨us.toArray,rfl,by simpa using h3,fun j a ha=>by obtain ⟨u,h5,h6⟩:=h4 j a ha;exact ⟨u,by simpa using h5,h6⟩⟩
   ·exact ay.top _ _ _
theorem yG:∀ {l:List AV} {us:List Value} {k:Nat},dX K T l us→∀ i,(k≤i∧i < k + us.length∧∃ u,us[i - k]? = some u∧ay K T (au (numbered k l) i) u)∨au (numbered k l) i = .top
 | [],us,k,_,i=>.inr rfl
 | a :: r,us,k,h,i=>by
  obtain ⟨v,s,rfl,h1,h2⟩:=h.cons
  simp only [numbered,au]
  split
  ·rename_i hk
   subst hk
   left
   refine ⟨Nat.le_refl _,by simp,v,by simp,h1⟩
  ·rcases yG (k:=k + 1) h2 i with ⟨h3,h4,u,h5,h6⟩ | h3
   ·left
    simp only [List.length_cons]
    refine ⟨by omega,by omega,u,?_,h6⟩
    rw [show i - k = (i - (k + 1)) + 1 by omega]
    simpa using h5
   ·exact .inr h3
theorem KU (hC:Ez C) {cf:Cf} (hcf:zI C cf) (hct:lS C cf) (n:Nat):zI C (kT C cf n):=by
 intro f args H x H' h K T vs hK hI ha
 subst hK
 unfold kT at h
 split at h
 ·cases h
 ·rename_i fn hF
  split at h
  ·cases h
  ·rename_i c hc
   refine calls_of_wp hF hc ?_
   have hN:Now C T K.H.length K (fF C f) (numbered 0 args) K.H { tmps:=vs ++ Array.replicate (fn.ntmps - vs.size) undef,defers:=[] } K.w:=by
    refine ⟨K.μ,hI,Evo.refl T K (Nat.le_refl _),fun i=>?_,?_,rfl⟩
    ·rcases yG (k:=0) ha i with ⟨_,h2,u,h3,h4⟩ | h1
     ·rw [Nat.sub_zero] at h3
      have:(vs ++ Array.replicate (fn.ntmps - vs.size) undef).getD i undef = u:=by
       have hlt:i < vs.size:=by simpa using h2
       rw [Array.getD_eq_getD_getElem?,Array.getElem?_append_left hlt,← Array.getElem?_toList,h3]
       rfl
      rw [this]
      exact h4
     ·rw [h1];exact ay.top _ _ _
    ·simp only [fF,hF,Option.map_some,Option.getD_some,Array.size_append,Array.size_replicate]
     omega
   have key:∀ (out:Out),exec C cf f K.H.length n c (numbered 0 args) K.H = some out→(out.ex = .normal∨out.ex = .ret)→(aQ C out.fr out.H fn.results.toList).map (fun l=>(aO l,out.H)) = some (x,H') →
     c.wp C.P (bodyPost C.P fn (Gives C T K x H')) { tmps:=vs ++ Array.replicate (fn.ntmps - vs.size) undef,defers:=[] } K.w:=by
    intro out hout hex hres
    refine wp_mono (nH hcf hct hC.mix c (hC.draws f fn c hF hc) hout hN) fun e a' w' hl=>?_
    obtain ⟨rfl,μ,hI',hE,hf,_,hd⟩:=hl
    cases hr:aQ C out.fr out.H fn.results.toList with
    | none=>rw [hr] at hres;cases hres
    | some l =>
     rw [hr] at hres
     simp only [Option.map_some,Option.some.injEq,Prod.mk.injEq] at hres
     obtain ⟨rfl,rfl⟩:=hres
     obtain ⟨v,h1,h2⟩:=KT hI' hf hr
     rcases hex with hex | hex <;> rw [hex] <;> exact ⟨hd,v,h1,μ,hI',hE,h2⟩
   split at h
   ·rename_i fr' H1 hx
    exact key _ hx (.inl rfl) h
   ·rename_i fr' H1 hx
    exact key _ hx (.inr rfl) h
   ·cases h
theorem IK (hC:Ez C):∀ n,zI C (kN C n)
 | 0=>by intro f args H x H' h;simp [kN] at h
 | n + 1=>by
  have:=OT (KU hC (IK hC n) (IL n) n)
  exact this
end
end Go.AM
namespace Go.AM
open Go.ChangeShapes Go.WideShapes Go.ChangeAt Go.RowKit
def T0 (n:Nat) (t b:Nat):Prop:=n≤b∨t ≠ 0
def start (W:World):Kx:=⟨fun _=>default,[],W⟩
theorem vN (W:World) (b:Nat):¬ Own (start W) b:=by
 rintro ⟨o,ob,h,_⟩
 simp [start] at h
def GOk (C:Ctx) (W:World):Prop:=∀ g p,C.G g = some p→ah p ≠ 0∧g < W.heap.size∧RP W (fun b=>b < W.heap.size) p (fun j=>W.cell? ⟨g,j,none⟩)
theorem GOk.none {C:Ctx} (hG:∀ g,C.G g = none) (W:World):GOk C W:=fun g p h=>by rw [hG] at h;cases h
theorem OU {C:Ctx} {W:World} (hG:GOk C W):Inv C (start W) (T0 W.heap.size) where
 obj:=fun o ob h=>by simp [start] at h
 inj:=fun o o' ob ob' h=>by simp [start] at h
 own:=fun b h=>absurd h (vN W b)
 new:=fun b h=>.inl h
 mono:=fun t b h=>by
  rcases h with h | h
  ·exact .inl h
  ·exact absurd rfl h
 glob:=fun g p h=>by
  obtain ⟨h1,h2,h3⟩:=hG g p h
  have hn:∀ b,b < W.heap.size→NT (start W) (T0 W.heap.size) bW b:=fun b hb=>⟨.inr (by simp [bW]),vN W b,hb⟩
  exact ⟨h1,hn g h2,jv (w':=(start W).w) (fun b hb=>⟨hn b hb,fun _ _ h=>h⟩) p _ _ (fun _ _ h=>h) h3⟩
def Ut (W:World) (e:Ending) (W':World):Prop :=
 e = .returned (.bool true)∧W'.os = W.os∧W'.output = W.output∧∀ b:Nat,b < W.heap.size→W'.heap[b]? = W.heap[b]?
theorem OV {C:Ctx} (hC:Ez C) {n f:Nat} {args:List AV} {vs:Array Value} {W:World} {H':Heap} (hG:GOk C W) (h:kN C n f args [] = some (.bool true,H'))
  (ha:dX (start W) (T0 W.heap.size) args vs.toList):Calls C.P f vs W (Ut W):=by
 have:=IK hC n f args [] _ H' h (start W) (T0 W.heap.size) vs rfl (OU hG) ha
 refine Calls.mono this fun e W' he=>?_
 cases e with
 | panicked=>exact he.elim
 | outgrown=>exact he.elim
 | returned v =>
  obtain ⟨μ,hI,hE,hv⟩:=he
  simp only [ay,aB,aP,RV] at hv
  subst hv
  refine ⟨rfl,hE.os,hE.output,fun b hb=>hE.exact b hb (vN W b) ?_⟩
  rintro (h | h)
  ·have:b < W.heap.size:=hb
   omega
  ·exact h rfl
section
variable {H:Type} {enc:TypeId × Value→H}
theorem QN {P:Program} {f:Func} {s:ChangeSpec} {apart fresh handsOn again:Bool} {W W':World} {args:Array Value} {ds gs:List (DataW H)} {before:List MemPlace} {rt:TypeId}
  (hrow:laidOutB P = true) (hmap:mapsRowed P = true) (hfull:∀ t e,t < P.types.size→P.underlying t = some (.slice e)→0 < P.cellsOf e) (Gv:∀ t ∈ f.params.toList,t < P.types.size)
  (hvars:s.vars = []) (hrt:f.resultTypes = #[rt]) (hb:P.underlying rt = some .bool)
  (hW:DataW.Whole enc P f.params.toList s.vars apart W args.toList ds gs before) (hfn:s.fn H ds = { results:=[.lit (.bool true)],args:=ds })
  (hos:W'.os = W.os) (hout:W'.output = W.output) (hsame:∀ b:Nat,b < W.heap.size→W'.heap[b]? = W.heap[b]?) :
  s.post enc P f apart fresh handsOn again W args (.bool true) W':=by
 have hlt:=hW.lt
 have hcell:∀ b off,b < W.heap.size→W'.cell? ⟨b,off,none⟩ = W.cell? ⟨b,off,none⟩:=fun b off h=>cell_of_heap (hsame b h) off
 have hfz:∀ a:Addr,a.block < W.heap.size→W'.frozen? a = W.frozen? a:=fun a h=>by unfold World.frozen?;rw [hsame _ h]
 have hat:∀ p ∈ before,W.sameAt W' p:=by
  intro p hp
  have:=hlt p hp
  cases p with
  | cell b off=>exact hcell b off this
  | map b=>exact hsame b this
 have K:=kids_rows hrow hmap
 obtain ⟨p,q,hA,hV,hps,hz,hn⟩:=id hW
 rw [hvars] at hV
 obtain ⟨rfl,rfl⟩:=trodVars_none hV
 simp only [List.append_nil] at hps
 subst hps
 -- the arguments again
 have again':∀ sp:Nat→Bool,(∀ x ∈ before,sp x.block = true)→DataW.TrodAll enc P W' 0 sp true f.params.toList args.toList ds before:=by
  intro sp hsp
  have carry:∀ {ts:List TypeId} {vs:List Value} {ds:List (DataW H)} {ps:List MemPlace},DataW.TrodAll enc P W 0 (fun _=>true) true ts vs ds ps→(∀ x ∈ ps,W.sameAt W' x)→DataW.TrodAll enc P W' 0 (fun _=>true) true ts vs ds ps:=by
   intro ts
   induction ts with
   | nil=>intro vs ds ps h _;cases vs <;> cases ds <;> first | exact h | exact h.elim
   | cons t ts ih =>
    intro vs ds ps h hs
    cases vs with
    | nil=>exact h.elim
    | cons v vs =>
     cases ds with
     | nil=>exact h.elim
     | cons d ds =>
      obtain ⟨a,b,⟨n,h1⟩,h2,e⟩:=h
      subst e
      exact ⟨a,b,⟨n,DataW.trod_carry n t _ _ h1 fun x hx=>hs x (List.mem_append_left _ hx)⟩,ih h2 fun x hx=>hs x (List.mem_append_right _ hx),rfl⟩
  exact DataW.TrodAll.respare K hfull Gv (carry hA hat) hsp
 have hres:∀ (b:Nat) (sp:Nat→Bool) (hd:Bool),DataW.TrodAll enc P W' b sp hd f.resultTypes.toList ((Value.bool true).resultList f.resultTypes.size) [.lit (.bool true)] []:=by
  intro b sp hd
  rw [hrt]
  exact trodAll_mk1 (shut_bool hb true)
 have hfn':s.fn H (ds ++ []) = { results:=[.lit (.bool true)],args:=ds }:=by rw [List.append_nil];exact hfn
 have hold:∀ x ∈ before,(fun b=>decide (b < W.heap.size)) x.block = true:=fun x hx=>by simpa using hlt x hx
 have hkept:W.keptBut W' (fun x=>x ∈ before∧x ∈ before ++ []):=by
  refine ⟨hos,hout,fun i hi=>?_⟩
  rw [hsame i hi]
  generalize W.heap[i]? = x
  rcases x with _ | x
  ·rfl
  ·cases x <;> simp
 refine ⟨ds,[],before,[],before,[],hW,?_,?_,?_,?_,fun _=>?_⟩
 ·rw [hfn'];exact hres _ _ _
 ·rw [hfn'];exact again' _ hold
 ·rw [hfn',hvars];rfl
 ·refine World.keptBut_mono (fun x hx=>?_) hkept
  exact ⟨hx.1,.inr (.inl hx.1)⟩
 ·refine ⟨ok_one hrt rfl (okWide_bool_mk hb true),[.lit (.bool true)] ++ ds,[],([] ++ before) ++ [],⟨[] ++ before,[],?_,?_,rfl,?_,?_⟩,?_⟩
  ·exact trodAll_append (again' _ (fun _ _=>rfl)) (hres _ _ _)
  ·rw [hvars];rfl
  ·intro b off hp
   have hp':MemPlace.cell b off ∈ before:=by simpa using hp
   rw [hfz ⟨b,off,none⟩ (hlt (MemPlace.cell b off) hp')]
   exact hz b off hp'
  ·intro ha
   simpa using hn ha
  ·intro x hx _
   simpa using hx
theorem law_lifted {a:Assume} {D:Checked} {X:Ctx} (hX:X.P = D.prog) (hC:Ez X) (hG:∀ g,X.G g = none) {os:Os} {f:FuncId} {fn:Func} {s:ChangeSpec} {conds:List PathCond} {apart fresh handsOn again:Bool} {rt:TypeId}
  (own:ownKnob D.prog.godebug = none) (started:os.Started) (noInit:D.prog.inits.idxOf? f = none) (hfn:D.prog.funcs[f]? = some fn)
  (witness:∃ (w:World) (tape:Tape) (i:Input),w.os = os∧(w.forCall tape i).Shaped D.prog∧i.vars = []∧Input.okWide D.prog (w.forCall tape i) .any w.heap.size f i ∧
   s.pre6 enc D.prog fn conds apart (w.forCall tape i).memory i.args∧a.holds D.prog (lone (Frame.enter D.prog f i.args .normal) [] (w.forCall tape i)))
  (hrow:laidOutB D.prog = true) (hmap:mapsRowed D.prog = true) (hfull:∀ t e,t < D.prog.types.size→D.prog.underlying t = some (.slice e)→0 < D.prog.cellsOf e) (Gv:∀ t ∈ fn.params.toList,t < D.prog.types.size)
  (hvars:s.vars = []) (hrt:fn.resultTypes = #[rt]) (hb:D.prog.underlying rt = some .bool)
  (hspec:∀ ds:List (DataW H),ds.length = fn.params.toList.length→s.fn H ds = { results:=[.lit (.bool true)],args:=ds })
  (run:∀ (W:World) (base:Nat) (args:Array Value) (ds:List (DataW H)) (ps:List MemPlace),
   (∀ (j:Nat) t v,fn.params[j]? = some t→args[j]? = some v→Value.okWide D.prog W .any base t v) →
   DataW.TrodAll enc D.prog W 0 (fun _=>true) true fn.params.toList args.toList ds ps →
   ∃ n as H',kN X n f as [] = some (.bool true,H')∧dX (start W) (T0 W.heap.size) as args.toList) :
  ReturnsInHanded a D os f .any (s.pre6 enc D.prog fn conds apart) (s.post enc D.prog fn apart fresh handsOn again):=by
 refine returnsInHanded_of_change own started noInit hfn witness ?_
 intro W base args ds gs before hval hW _ _
 obtain ⟨p,q,hA,hV,_,_,_⟩:=id hW
 obtain ⟨n,as,H',h1,h2⟩:=run W base args ds p hval hA
 have zK:=OV hC (GOk.none hG W) h1 h2
 rw [hX] at zK
 refine Calls.mono zK fun e W' he=>?_
 obtain ⟨he,hos,hout,hsame⟩:=he
 exact ⟨_,he,QN hrow hmap hfull Gv hvars hrt hb hW (hspec ds (trodAll_length hA).2) hos hout hsame⟩
end
def QS (C:Ctx):Bool :=
 (List.range C.P.funcs.size).all fun f=>match C.P.funcs[f]? with
  | some fn=>match fn.body with
   | some c=>jr C f c
   | none=>true
  | none=>true
theorem Qw {C:Ctx} (mix:C.P.follows .mixedOrders = true) (h:QS C = true):Ez C where
 mix:=mix
 draws:=by
  intro f fn c hf hc
  have hlt:f < C.P.funcs.size:=(Array.getElem?_eq_some_iff.1 hf).1
  have:=List.all_eq_true.1 h f (List.mem_range.2 hlt)
  rw [hf] at this
  simp only [hc] at this
  exact this
def litVal:Lit→Value
 | .bool b=>.bool b
 | .int k n=>.int k n
 | .string b=>.string ⟨⟨b⟩⟩
 | _=>undef
mutual
def cellsD:DataW Unit→List Value
 | .lit l=>[litVal l]
 | .agg ps=>NG ps
 | _=>[undef]
def NG:List (DataW Unit)→List Value
 | []=>[]
 | d :: r=>cellsD d ++ NG r
end
end Go.AM
namespace Go.AM
open Go.Lib
end Go.AM
namespace Go.AM
section
variable {C:Ctx}
def Ev1 (C:Ctx) (f:Nat) (args:List AV) (H:Heap) (r:AV × Heap):Prop:=∃ n0,∀ n,n0≤n→kN C n f args H = some r
def Below (C:Ctx) (T:Cf):Prop:=∀ f args H r,T f args H = some r→Ev1 C f args H r
theorem Uu {T:Cf} (hT:Below C T) {fr:Frame} {H:Heap} {o:Oper} {r:AV × Heap} (h:step C T fr H o = some r):∃ n0,∀ n,n0≤n→step C (kN C n) fr H o = some r:=by
 obtain ⟨dst,op,type,pos,after,guard⟩:=o
 cases op <;> try exact ⟨0,fun _ _=>h⟩
 case makeFunc fn first caps=>cases fn <;> exact ⟨0,fun _ _=>h⟩
 case call c =>
  simp only [step,rD] at h ⊢
  cases hc:c.callee with
  | builtin b=>rw [hc] at h;exact ⟨0,fun _ _=>h⟩
  | value x =>
   rw [hc] at h
   simp only at h ⊢
   split at h
   ·rename_i f caps he
    split at h
    ·obtain ⟨n0,hn⟩:=hT _ _ _ _ h
     refine ⟨n0,fun n hl=>?_⟩
     rename_i hb
     rw [if_pos hb]
     exact hn n hl
    ·cases h
   ·cases h
  | invoke r n=>rw [hc] at h;cases h
theorem NH {T:Cf} (hT:Below C T) {nt:Nat} {ops:Array Oper} {o:Oper} {fr:Frame} {H:Heap} {r:AV × Heap} (h:out1 C T nt ops o fr H = some r):∃ n0,∀ n,n0≤n→out1 C (kN C n) nt ops o fr H = some r:=by
 unfold out1 at h ⊢
 split at h
 ·rename_i hd
  simp only [hd,if_true]
  split at h
  ·exact Uu hT h
  ·exact ⟨0,fun _ _=>h⟩
  ·cases h
 ·cases h
theorem EJ {T:Cf} (hT:Below C T) {nt:Nat} {ops:Array Oper}:∀ {l:List Oper} {fr:Frame} {H:Heap} {r:Frame × Heap},kY C T nt ops l fr H = some r→∃ n0,∀ n,n0≤n→kY C (kN C n) nt ops l fr H = some r
 | [],fr,H,r,h=>⟨0,fun _ _=>h⟩
 | o :: l,fr,H,r,h=>by
  rw [uD] at h
  split at h
  ·rename_i v H1 hv
   obtain ⟨n0,h0⟩:=NH hT hv
   obtain ⟨n1,h1⟩:=EJ hT h
   refine ⟨max n0 n1,fun n hn=>?_⟩
   rw [uD,h0 n (by omega)]
   exact h1 n (by omega)
  ·cases h
theorem NI {T:Cf} (hT:Below C T) {nt:Nat} {ops:Array Oper}:∀ {l:List Oper} {fr:Frame} {H:Heap} {r:Frame × Heap × List Mark},lJ C T nt ops l fr H = some r→∃ n0,∀ n,n0≤n→lJ C (kN C n) nt ops l fr H = some r
 | [],fr,H,r,h=>⟨0,fun _ _=>h⟩
 | o :: l,fr,H,r,h=>by
  simp only [lJ] at h
  split at h
  ·rename_i v H1 hv
   split at h
   ·rename_i fr' H2 ms hr
    obtain ⟨n0,h0⟩:=NH hT hv
    obtain ⟨n1,h1⟩:=NI hT hr
    refine ⟨max n0 n1,fun n hn=>?_⟩
    simp only [lJ]
    rw [h0 n (by omega)]
    simp only
    rw [h1 n (by omega)]
    exact h
   ·cases h
  ·cases h
theorem nI {T:Cf} (hT:Below C T) {f m k:Nat}:(c:Code)→∀ {fr:Frame} {H:Heap} {out:Out},exec C T f m k c fr H = some out→∃ n0,∀ n,n0≤n→∀ k',k≤k'→exec C (kN C n) f m k' c fr H = some out
 | .skip,fr,H,out,h=>⟨0,fun _ _ _ _=>h⟩
 | .region id ops draw,fr,H,out,h=>by
  simp only [exec] at h ⊢
  split at h
  ·rename_i hd
   simp only [hd,if_true]
   split at h
   ·rename_i fr' H' ms hr
    obtain ⟨n0,h0⟩:=NI hT hr
    refine ⟨n0,fun n hn k' _=>?_⟩
    rw [h0 n hn]
    exact h
   ·cases h
  ·rename_i hd
   simp only [hd,Bool.false_eq_true,if_false]
   split at h
   ·cases h
   ·rename_i hd2
    simp only [hd2,Bool.false_eq_true,if_false]
    split at h
    ·rename_i fr' H' hr
     obtain ⟨n0,h0⟩:=EJ hT hr
     refine ⟨n0,fun n hn k' _=>?_⟩
     rw [h0 n hn]
     exact h
    ·cases h
 | .seq a b,fr,H,out,h=>by
  simp only [exec] at h ⊢
  split at h
  ·rename_i fr' H' ha
   obtain ⟨n0,h0⟩:=nI hT a ha
   obtain ⟨n1,h1⟩:=nI hT b h
   refine ⟨max n0 n1,fun n hn k' hk=>?_⟩
   rw [h0 n (by omega) k' hk]
   exact h1 n (by omega) k' hk
  ·rename_i hne
   obtain ⟨n0,h0⟩:=nI hT a h
   refine ⟨n0,fun n hn k' hk=>?_⟩
   rw [h0 n hn k' hk]
   obtain ⟨ex,fr',H'⟩:=out
   cases ex with
   | normal=>exact absurd h (hne _ _)
   | exit id=>rfl
   | ret=>rfl
 | .cond c a b,fr,H,out,h=>by
  simp only [exec] at h ⊢
  split at h
  ·rename_i d hd
   cases d with
   | true=>exact nI hT a h
   | false=>exact nI hT b h
  ·cases h
 | .block id c,fr,H,out,h=>by
  simp only [exec] at h ⊢
  split at h
  ·rename_i id' fr' H' hc
   obtain ⟨n0,h0⟩:=nI hT c hc
   refine ⟨n0,fun n hn k' hk=>?_⟩
   rw [h0 n hn k' hk]
   exact h
  ·rename_i hne
   obtain ⟨n0,h0⟩:=nI hT c h
   refine ⟨n0,fun n hn k' hk=>?_⟩
   rw [h0 n hn k' hk]
   obtain ⟨ex,fr',H'⟩:=out
   cases ex with
   | normal=>rfl
   | exit id=>exact absurd h (hne _ _ _)
   | ret=>rfl
 | .loop c,fr,H,out,h=>by
  simp only [exec] at h ⊢
  have key:∀ j,∀ {fr:Frame} {H:Heap},nX (exec C T f m k c) j fr H = some out→∃ n0,∀ n,n0≤n→∀ k',k≤k'→∀ j',j≤j'→nX (exec C (kN C n) f m k' c) j' fr H = some out:=by
   intro j
   induction j with
   | zero=>intro fr H h;simp [nX] at h
   | succ j ih =>
    intro fr H h
    simp only [nX] at h
    split at h
    ·rename_i fr' H' hc
     obtain ⟨n0,h0⟩:=nI hT c hc
     obtain ⟨n1,h1⟩:=ih h
     refine ⟨max n0 n1,fun n hn k' hk j' hj=>?_⟩
     obtain ⟨j',rfl⟩:∃ i,j' = i + 1:=⟨j' - 1,by omega⟩
     simp only [nX]
     rw [h0 n (by omega) k' hk]
     exact h1 n (by omega) k' hk j' (by omega)
    ·rename_i hne
     obtain ⟨n0,h0⟩:=nI hT c h
     refine ⟨n0,fun n hn k' hk j' hj=>?_⟩
     obtain ⟨j',rfl⟩:∃ i,j' = i + 1:=⟨j' - 1,by omega⟩
     simp only [nX]
     rw [h0 n hn k' hk]
     obtain ⟨ex,fr',H'⟩:=out
     cases ex with
     | normal=>exact absurd h (hne _ _)
     | exit id=>rfl
     | ret=>rfl
  obtain ⟨n0,h0⟩:=key k h
  exact ⟨n0,fun n hn k' hk=>h0 n hn k' hk k' hk⟩
 | .exit id,fr,H,out,h=>⟨0,fun _ _ _ _=>h⟩
 | .ret,fr,H,out,h=>⟨0,fun _ _ _ _=>h⟩
 | .scope ..,fr,H,out,h=>by simp [exec] at h
 | .label ..,fr,H,out,h=>by simp [exec] at h
 | .goto ..,fr,H,out,h=>by simp [exec] at h
 | .refuse ..,fr,H,out,h=>by simp [exec] at h
 | .rangeFunc ..,fr,H,out,h=>by simp [exec] at h
theorem KW {T:Cf} (hT:Below C T) {k f:Nat} {args:List AV} {H:Heap} {r:AV × Heap} (h:kT C T k f args H = some r):∃ n0,∀ n,n0≤n→kT C (kN C n) n f args H = some r:=by
 unfold kT at h ⊢
 cases hF:C.P.funcs[f]? with
 | none=>rw [hF] at h;cases h
 | some fn =>
  rw [hF] at h
  simp only at h ⊢
  cases hb:fn.body with
  | none=>rw [hb] at h;cases h
  | some c =>
   rw [hb] at h
   simp only at h ⊢
   cases he:exec C T f H.length k c (numbered 0 args) H with
   | none=>rw [he] at h;cases h
   | some out =>
    obtain ⟨n0,h0⟩:=nI hT c he
    refine ⟨max n0 k,fun n hn=>?_⟩
    rw [h0 n (by omega) n (by omega)]
    rw [he] at h
    exact h
theorem Cj {T:Cf} (hT:Below C T) {k f:Nat} {args:List AV} {H:Heap} {r:AV × Heap} (h:jG C (kT C T k) f args H = some r):Ev1 C f args H r:=by
 unfold jG at h
 split at h
 ·cases h
 ·rename_i as aN hl
  simp only at h
  split at h
  ·rename_i hc
   split at h
   ·cases h
   ·rename_i v H1 hb
    obtain ⟨n0,h0⟩:=KW hT hb
    refine ⟨n0 + 1,fun n hn=>?_⟩
    obtain ⟨n,rfl⟩:∃ i,n = i + 1:=⟨n - 1,by omega⟩
    show jG C (kT C (kN C n) n) f args H = some r
    unfold jG
    rw [hl]
    simp only
    rw [if_pos hc,h0 n (by omega)]
    exact h
  ·cases h
theorem Below.none:Below C (fun _ _ _=>none):=by intro f args H r h;cases h
def NJ (C:Ctx) (T:Cf):Nat→Cf
 | 0,f,args,H=>T f args H
 | n + 1,f,args,H=>match T f args H with
  | some r=>some r
  | none=>jG C (kT C (NJ C T n) n) f args H
theorem Aq {T:Cf} (hT:Below C T):∀ n,Below C (NJ C T n)
 | 0=>hT
 | n + 1=>by
  intro f args H r h
  simp only [NJ] at h
  split at h
  ·rename_i r' hr
   rw [← Option.some.inj h]
   exact hT _ _ _ _ hr
  ·exact Cj (Aq hT n) h
theorem xA {b b':Frame→Heap→Option Out} (hb:∀ fr H out,b fr H = some out→b' fr H = some out):∀ {j j':Nat} {fr:Frame} {H:Heap} {out:Out},j≤j'→nX b j fr H = some out→nX b' j' fr H = some out
 | 0,j',fr,H,out,_,h=>by simp [nX] at h
 | j + 1,j',fr,H,out,hj,h=>by
  obtain ⟨j',rfl⟩:∃ i,j' = i + 1:=⟨j' - 1,by omega⟩
  simp only [nX] at h ⊢
  split at h
  ·rename_i fr' H' hc
   rw [hb _ _ _ hc]
   exact xA hb (by omega) h
  ·rename_i hne
   rw [hb _ _ _ h]
   obtain ⟨ex,fr',H'⟩:=out
   cases ex with
   | normal=>exact absurd h (hne _ _)
   | exit id=>rfl
   | ret=>rfl
theorem iC {T:Cf} {f m k k':Nat} (hk:k≤k'):(c:Code)→∀ (fr:Frame) (H:Heap) (out:Out),exec C T f m k c fr H = some out→exec C T f m k' c fr H = some out
 | .skip,fr,H,out,h=>h
 | .region id ops draw,fr,H,out,h=>h
 | .seq a b,fr,H,out,h=>by
  simp only [exec] at h ⊢
  split at h
  ·rename_i fr' H' ha
   rw [iC hk a _ _ _ ha]
   exact iC hk b _ _ _ h
  ·rename_i hne
   rw [iC hk a _ _ _ h]
   obtain ⟨ex,fr',H'⟩:=out
   cases ex with
   | normal=>exact absurd h (hne _ _)
   | exit id=>rfl
   | ret=>rfl
 | .cond c a b,fr,H,out,h=>by
  simp only [exec] at h ⊢
  split at h
  ·rename_i d hd
   cases d with
   | true=>exact iC hk a _ _ _ h
   | false=>exact iC hk b _ _ _ h
  ·cases h
 | .block id c,fr,H,out,h=>by
  simp only [exec] at h ⊢
  split at h
  ·rename_i id' fr' H' hc
   rw [iC hk c _ _ _ hc]
   exact h
  ·rename_i hne
   rw [iC hk c _ _ _ h]
   obtain ⟨ex,fr',H'⟩:=out
   cases ex with
   | normal=>rfl
   | exit id=>exact absurd h (hne _ _ _)
   | ret=>rfl
 | .loop c,fr,H,out,h=>by
  simp only [exec] at h ⊢
  exact xA (iC hk c) hk h
 | .exit id,fr,H,out,h=>h
 | .ret,fr,H,out,h=>h
 | .scope ..,fr,H,out,h=>by simp [exec] at h
 | .label ..,fr,H,out,h=>by simp [exec] at h
 | .goto ..,fr,H,out,h=>by simp [exec] at h
 | .refuse ..,fr,H,out,h=>by simp [exec] at h
 | .rangeFunc ..,fr,H,out,h=>by simp [exec] at h
def Run (C:Ctx) (T:Cf) (f m:Nat) (c:Code) (fr:Frame) (H:Heap) (out:Out):Prop:=∃ k,exec C T f m k c fr H = some out
variable {T:Cf} {f m:Nat} {fr fr':Frame} {H H':Heap} {out:Out}
theorem Run.seq {a b:Code} (h:Run C T f m a fr H ⟨.normal,fr',H'⟩) (h':Run C T f m b fr' H' out):Run C T f m (.seq a b) fr H out:=by
 obtain ⟨k0,h0⟩:=h
 obtain ⟨k1,h1⟩:=h'
 refine ⟨max k0 k1,?_⟩
 simp only [exec]
 rw [iC (Nat.le_max_left k0 k1) a _ _ _ h0]
 exact iC (Nat.le_max_right k0 k1) b _ _ _ h1
theorem Run.bH {a b:Code} (h:Run C T f m a fr H out) (hne:out.ex ≠ .normal):Run C T f m (.seq a b) fr H out:=by
 obtain ⟨k0,h0⟩:=h
 refine ⟨k0,?_⟩
 simp only [exec]
 rw [h0]
 obtain ⟨ex,fr',H'⟩:=out
 cases ex with
 | normal=>exact absurd rfl hne
 | exit id=>rfl
 | ret=>rfl
theorem Run.cond {c:Operand} {a b:Code} {d:Bool} (hc:aC C fr c = .bool d) (h:Run C T f m (if d then a else b) fr H out):Run C T f m (.cond c a b) fr H out:=by
 obtain ⟨k0,h0⟩:=h
 refine ⟨k0,?_⟩
 simp only [exec]
 rw [hc]
 cases d <;> exact h0
theorem Run.eF {id:Nat} {c:Code} (h:Run C T f m c fr H ⟨.exit id,fr',H'⟩):Run C T f m (.block id c) fr H ⟨.normal,fr',H'⟩:=by
 obtain ⟨k0,h0⟩:=h
 refine ⟨k0,?_⟩
 simp only [exec]
 rw [h0]
 simp
theorem Run.block {id:Nat} {c:Code} (h:Run C T f m c fr H out) (hne:out.ex ≠ .exit id):Run C T f m (.block id c) fr H out:=by
 obtain ⟨k0,h0⟩:=h
 refine ⟨k0,?_⟩
 simp only [exec]
 rw [h0]
 obtain ⟨ex,fr',H'⟩:=out
 cases ex with
 | normal=>rfl
 | exit id' =>
  have:id' ≠ id:=fun e=>hne (by rw [e])
  simp [this]
 | ret=>rfl
theorem Run.zL {c:Code} (h:Run C T f m c fr H ⟨.normal,fr',H'⟩) (h':Run C T f m (.loop c) fr' H' out):Run C T f m (.loop c) fr H out:=by
 obtain ⟨k0,h0⟩:=h
 obtain ⟨k1,h1⟩:=h'
 refine ⟨max k0 k1 + 1,?_⟩
 simp only [exec] at h1 ⊢
 rw [nX,iC (show k0≤max k0 k1 + 1 by omega) c _ _ _ h0]
 exact xA (iC (show k1≤max k0 k1 + 1 by omega) c) (by omega) h1
theorem Run.Cm {c:Code} (h:Run C T f m c fr H out) (hne:out.ex ≠ .normal):Run C T f m (.loop c) fr H out:=by
 obtain ⟨k0,h0⟩:=h
 refine ⟨k0 + 1,?_⟩
 simp only [exec]
 rw [nX,iC (show k0≤k0 + 1 by omega) c _ _ _ h0]
 obtain ⟨ex,fr',H'⟩:=out
 cases ex with
 | normal=>exact absurd rfl hne
 | exit id=>rfl
 | ret=>rfl
theorem Run.jD {c:Code} {σ:Type} (I:σ→Prop) (fr:σ→Frame) (H:σ→Heap) (out:σ→Out) (μ:σ→Nat)
  (step:∀ s,I s→(∃ s',I s'∧Run C T f m c (fr s) (H s) ⟨.normal,fr s',H s'⟩∧out s' = out s∧μ s' < μ s)∨(Run C T f m c (fr s) (H s) (out s)∧(out s).ex ≠ .normal)) (s:σ) (hs:I s) :
  Run C T f m (.loop c) (fr s) (H s) (out s):=by
 generalize hn:μ s = n
 induction n using Nat.strongRecOn generalizing s with
 | _ n ih =>
  rcases step s hs with ⟨s',h0,h1,h2,h3⟩ | ⟨h1,h2⟩
  ·rw [← h2]
   exact Run.zL h1 (ih (μ s') (by omega) s' h0 rfl)
  ·exact Run.Cm h1 h2
theorem Ev1.of {T:Cf} (hT:Below C T) {f:Nat} {args:List AV} {H:Heap} {r:AV × Heap} {fn:Func} {c:Code} {as:List AV} {aN:List dZ} {out:Out} {l:List AV}
  (hF:C.P.funcs[f]? = some fn) (hb:fn.body = some c) (hl:aH C f H 0 args = some (as,aN))
  (hc:((aN.all fun x=>disjoint x.objs (reach H aG (aJ as) [])) && decide (as.length + 1 < bW)) = true)
  (he:Run C T f ((reach H aG (aJ as) []).length) c (numbered 0 (coerce C (bZ (dh H (reach H aG (aJ as) [])) (fun t=>t) as) (aI C f)))
   ((reach H aG (aJ as) []).map fun o=>(aZ H o).map (aU (dh H (reach H aG (aJ as) [])) (fun _=>as.length + 1) 0)) out)
  (hex:out.ex = .normal∨out.ex = .ret) (hr:aQ C out.fr out.H fn.results.toList = some l)
  (hw:wrap H (reach H aG (aJ as) []) (aN ++ [⟨[],aA ((reach H aG (aJ as) []).map (aZ H))⟩]) (aO l) out.H = some r):Ev1 C f args H r:=by
 obtain ⟨k,hk⟩:=he
 refine Cj hT (k:=k) ?_
 unfold jG
 rw [hl]
 simp only
 rw [if_pos hc]
 have:kT C T k f (coerce C (bZ (dh H (reach H aG (aJ as) [])) (fun t=>t) as) (aI C f))
   ((reach H aG (aJ as) []).map fun o=>(aZ H o).map (aU (dh H (reach H aG (aJ as) [])) (fun _=>as.length + 1) 0)) = some (aO l,out.H):=by
  unfold kT
  rw [hF]
  simp only
  rw [hb]
  simp only [List.length_map]
  rw [hk]
  obtain ⟨ex,fr',H'⟩:=out
  simp only at hex hr ⊢
  rcases hex with rfl | rfl <;> simp [hr]
 rw [this]
 exact hw
theorem CB {H:Heap} {t:Nat} {a:AV} (hi:ids a = []):dY H t a = dY [] t a∧∀ r,dY H t a = some r→r.2.objs = []∧ids r.1 = []:=by
 cases a
 case sl o off len g=>simp [ids] at hi
 case ro c p t' =>
  refine ⟨rfl,fun r h=>?_⟩
  simp only [dY,Option.some.injEq] at h
  subst h
  exact ⟨rfl,rfl⟩
 case iR p i f t' =>
  refine ⟨rfl,fun r h=>?_⟩
  simp only [dY,Option.some.injEq] at h
  subst h
  exact ⟨rfl,rfl⟩
 all_goals
  refine ⟨rfl,fun r h=>?_⟩
  simp only [dY] at h
  split at h
  ·simp only [Option.some.injEq] at h
   subst h
   exact ⟨rfl,hi⟩
  ·cases h
theorem xB {H:Heap} {t:Nat}:∀ {l:List AV},aJ l = []→iO H t l = iO [] t l∧∀ r,iO H t l = some r→r.2.objs = []∧aJ r.1 = []
 | [],_=>⟨rfl,fun r h=>by simp only [iO,Option.some.injEq] at h;subst h;exact ⟨rfl,rfl⟩⟩
 | a :: l,hi=>by
  simp only [aJ,List.append_eq_nil_iff] at hi
  obtain ⟨h1,h2⟩:=CB (H:=H) (t:=t) hi.1
  obtain ⟨h3,h4⟩:=xB (H:=H) (t:=t) hi.2
  refine ⟨by simp only [iO,h1,h3],fun r h=>?_⟩
  simp only [iO] at h
  split at h
  ·rename_i a' x r' y e1 e2
   simp only [Option.some.injEq] at h
   subst h
   obtain ⟨q1,q2⟩:=h2 _ e1
   obtain ⟨q3,q4⟩:=h4 _ e2
   exact ⟨by simp only at q1 q3 ⊢;rw [q1,q3];rfl,by simp only [aJ] at q2 q4 ⊢;rw [q2,q4];rfl⟩
  ·cases h
theorem KX {H:Heap} {t:Nat} {a:AV} (hi:ids a = []):eU H t a = eU [] t a∧∀ r,eU H t a = some r→r.2.objs = []∧ids r.1 = []:=by
 unfold eU
 split
 ·rename_i l
  obtain ⟨h1,h2⟩:=xB (H:=H) (t:=t) (l:=l) (by simpa [ids] using hi)
  refine ⟨by rw [h1],fun r h=>?_⟩
  cases hl:iO H t l with
  | none=>rw [hl] at h;cases h
  | some z =>
   rw [hl] at h
   simp only [Option.map_some,Option.some.injEq] at h
   subst h
   obtain ⟨q1,q2⟩:=h2 _ hl
   exact ⟨q1,by simpa [ids] using q2⟩
 ·rename_i f l
  obtain ⟨h1,h2⟩:=xB (H:=H) (t:=t) (l:=l) (by simpa [ids] using hi)
  refine ⟨by rw [h1],fun r h=>?_⟩
  cases hl:iO H t l with
  | none=>rw [hl] at h;cases h
  | some z =>
   rw [hl] at h
   simp only [Option.map_some,Option.some.injEq] at h
   subst h
   obtain ⟨q1,q2⟩:=h2 _ hl
   exact ⟨q1,by simpa [ids] using q2⟩
 ·exact CB hi
theorem wO {f:Nat} {H:Heap}:∀ {args:List AV} {i:Nat},aJ args = []→aH C f H i args = aH C f [] i args∧∀ r,aH C f H i args = some r→(∀ x ∈ r.2,x.objs = [])∧aJ r.1 = []
 | [],i,_=>⟨rfl,fun r h=>by simp only [aH,Option.some.injEq] at h;subst h;simp [aJ]⟩
 | a :: l,i,hi=>by
  simp only [aJ,List.append_eq_nil_iff] at hi
  obtain ⟨h1,h2⟩:=KX (H:=H) (t:=i + 1) hi.1
  obtain ⟨h3,h4⟩:=wO (f:=f) (H:=H) (i:=i + 1) hi.2
  have e:∀ H:Heap,aH C f H i (a :: l) = match eU H (i + 1) a,aH C f H (i + 1) l with
    | some (a',x),some (r',y)=>some (a' :: r',x :: y)
    | _,_=>none:=by
   intro H
   clear h1 h2 h3 h4
   cases a
   case sl o off len g=>simp [ids] at hi
   all_goals
    simp only [aH]
    generalize eU H (i + 1) _ = x
    generalize aH C f H (i + 1) l = y
    cases C.rw f i <;> rcases x with _ | ⟨_,_⟩ <;> rcases y with _ | ⟨_,_⟩ <;> rfl
  rw [e,e,h1,h3]
  refine ⟨rfl,fun r h=>?_⟩
  rw [← h1,← h3] at h
  split at h
  ·rename_i a' x r' y e1 e2
   simp only [Option.some.injEq] at h
   subst h
   obtain ⟨q1,q2⟩:=h2 _ e1
   obtain ⟨q3,q4⟩:=h4 _ e2
   refine ⟨fun z hz=>?_,by simp only [aJ] at q2 q4 ⊢;rw [q2,q4];rfl⟩
   rcases List.mem_cons.1 hz with rfl | hz
   ·exact q1
   ·exact q3 z hz
  ·cases h
theorem zM (H:Heap) (acc:List Nat):∀ n,reach H n [] acc = acc
 | 0=>rfl
 | _ + 1=>rfl
def uF (n:Nat) (o g:Nat):Option (Nat × Nat):=some (o + n,g)
def dM (n:Nat) (v:AV):AV:=ren (uF n) (fun t=>t) v
def kG (n:Nat) (N:Heap):Heap:=N.map fun x=>x.map fun ob=>aU (uF n) (fun t=>t) ob.g ob
mutual
theorem oL {ρ ρ':Nat→Nat→Option (Nat × Nat)} {τ:Nat→Nat} {n:Nat} (h:∀ o g,ρ' o g = (ρ o g).map fun x=>(x.1 + n,x.2)):(v:AV)→ren ρ' τ v = dM n (ren ρ τ v)
 | .ptr o i f g=>by
  simp only [ren,h]
  rcases ρ o g with _ | ⟨a,b⟩ <;> simp [dM,ren,uF]
 | .sl o off len g=>by
  simp only [ren,h]
  rcases ρ o g with _ | ⟨a,b⟩ <;> simp [dM,ren,uF]
 | .map o g=>by
  simp only [ren,h]
  rcases ρ o g with _ | ⟨a,b⟩ <;> simp [dM,ren,uF]
 | .ro c p t=>by simp [ren,dM]
 | .iR p i f t=>by simp [ren,dM]
 | .agg p=>by simp only [ren,dM,oL h p]
 | .tup l=>by simp only [ren,dM,mZ h l]
 | .fn f l=>by simp only [ren,dM,mZ h l]
 | .pc l=>by simp only [ren,dM,mZ h l]
 | .pr e l=>by simp only [ren,dM,mZ h l]
 | .pm l=>by simp only [ren,dM,mZ h l]
 | .top=>by simp [ren,dM]
 | .bool _=>by simp [ren,dM]
 | .int _ _=>by simp [ren,dM]
 | .str _=>by simp [ren,dM]
 | .gy=>by simp [ren,dM]
 | .jA=>by simp [ren,dM]
 | .gY=>by simp [ren,dM]
 | .pn=>by simp [ren,dM]
 | .pb _=>by simp [ren,dM]
 | .pi _ _=>by simp [ren,dM]
theorem mZ {ρ ρ':Nat→Nat→Option (Nat × Nat)} {τ:Nat→Nat} {n:Nat} (h:∀ o g,ρ' o g = (ρ o g).map fun x=>(x.1 + n,x.2)):(l:List AV)→bZ ρ' τ l = bZ (uF n) (fun t=>t) (bZ ρ τ l)
 | []=>rfl
 | a :: r=>by
  have h1:=oL (τ:=τ) h a
  simp only [dM] at h1
  simp only [bZ,h1,mZ h r]
end
theorem uG:∀ (l:List Nat) (o i n:Nat),idxOf l o (i + n) = (idxOf l o i).map (· + n)
 | [],_,_,_=>rfl
 | a :: r,o,i,n=>by
  simp only [idxOf]
  split
  ·rfl
  ·rw [show i + n + 1 = (i + 1) + n by omega,uG r o (i + 1) n]
theorem Ev1.frame {f:Nat} {args:List AV} {v:AV} {N:Heap} (h:Ev1 C f args [] (v,N)) (hi:aJ args = []) (H:Heap):Ev1 C f args H (dM H.length v,H ++ kG H.length N):=by
 obtain ⟨n0,h0⟩:=h
 refine ⟨n0 + 1,fun n hn=>?_⟩
 obtain ⟨n,rfl⟩:∃ i,n = i + 1:=⟨n - 1,by omega⟩
 have h1:=h0 (n + 1) (by omega)
 simp only [kN,jG] at h1 ⊢
 obtain ⟨e1,e2⟩:=wO (C:=C) (f:=f) (H:=H) (i:=0) hi
 rw [e1]
 split at h1
 ·cases h1
 ·rename_i as aN hl
  obtain ⟨e3,e4⟩:=e2 _ (e1.trans hl)
  simp only at e3 e4 h1 ⊢
  rw [e4] at h1 ⊢
  simp only [zM,List.map_nil,List.length_nil] at h1 ⊢
  have OW:∀ (H H':Heap) (l:List AV),bZ (dh H []) (fun t=>t) l = bZ (dh H' []) (fun t=>t) l:=by
   intro H H' l
   have:dh H [] = dh H' []:=by
    funext o g
    unfold dh
    split <;> split <;> simp [idxOf]
   rw [this]
  rw [OW H []]
  split at h1
  ·rename_i hc
   rw [if_pos hc]
   split at h1
   ·cases h1
   ·rename_i u H1 hb
    unfold wrap at h1 ⊢
    simp only [List.length_nil,List.range_zero,List.nil_append,List.map_nil,aA,List.append_nil] at h1 ⊢
    split at h1
    ·rename_i hu
     rw [if_pos hu]
     generalize (List.filter (fun o=>decide (0≤o)) (reach H1 aG (ids u) [])) = new at h1 ⊢
     have Ec:∀ o g,cu H [] new H1 o g = (cu [] [] new H1 o g).map fun x=>(x.1 + H.length,x.2):=by
      intro o g
      unfold cu
      split
      ·have:=uG new o 0 H.length
       rw [Nat.zero_add] at this
       simp [this,Option.map_map,Function.comp_def]
      ·rfl
     have QT:∀ t,dG (aN ++ [⟨[],[]⟩]) t = []:=by
      intro t
      unfold dG
      split
      ·rfl
      ·split
       ·rename_i x hx
        rcases List.mem_append.1 (List.mem_of_getElem? hx) with hx | hx
        ·exact e3 x hx
        ·simp only [List.mem_singleton] at hx
         rw [hx]
       ·rfl
     have hfl:∀ l:List Nat,l.flatMap (dG (aN ++ [⟨[],[]⟩])) = []:=fun l=>by simp [QT]
     simp only [hfl,List.filter_nil] at h1 ⊢
     simp only [List.filter_nil,strike,dw,List.nil_append,Option.some.injEq,Prod.mk.injEq] at h1 ⊢
     obtain ⟨h2,h3⟩:=h1
     refine ⟨by rw [← h2];exact oL Ec u,?_⟩
     rw [← h3]
     congr 1
     simp only [kG,List.map_map]
     refine List.map_congr_left fun o _=>?_
     simp only [Function.comp]
     cases aZ H1 o with
     | none=>rfl
     | some ob =>
      simp only [Option.map_some,aU,Option.some.injEq]
      have:=oL (τ:=dF (aN ++ [⟨[],[]⟩])) Ec ob.p
      simp only [dM] at this
      rw [this]
    ·cases h1
  ·cases h1
end
end Go.AM
namespace Go.AM
structure Row1 where
 f:Nat
 args:List AV
 res:AV
 N:Heap
def kH (C:Ctx) (L:List Row1):Prop:=∀ e ∈ L,Ev1 C e.f e.args [] (e.res,e.N)∧aJ e.args = []
theorem kH.nil {C:Ctx}:kH C []:=by intro e h;simp at h
def xw (C:Ctx) (T:Cf) (n:Nat) (e:Row1):Bool :=
 (aJ e.args).isEmpty && (match jG C (kT C (NJ C T n) n) e.f e.args [] with
  | some (v,N)=>iL v e.res && eqH N e.N
  | none=>false)
theorem kH.cons {C:Ctx} {T:Cf} (hT:Below C T) {L:List Row1} (hL:kH C L) {n:Nat} {e:Row1} (h:xw C T n e = true):kH C (e :: L):=by
 intro x hx
 rcases List.mem_cons.1 hx with rfl | hx
 ·unfold xw at h
  simp only [Bool.and_eq_true,List.isEmpty_iff] at h
  refine ⟨?_,h.1⟩
  have h2:=h.2
  split at h2
  ·rename_i v N hv
   simp only [Bool.and_eq_true] at h2
   rw [← vO _ _ h2.1,← xC h2.2]
   exact Cj (Aq hT n) hv
  ·cases h2
 ·exact hL x hx
end Go.AM
namespace Go.AM
def gq (H:Heap):AV→Option AV
 | .ro _ p _=>some p
 | .sl o off len g=>match live H o g with
  | some ob=>if ob.ids then none else iw ob.p off len
  | none=>none
 | _=>none
theorem QU {H:Heap} {t:Nat} {a p:AV} (h:gq H a = some p):∃ c x,eU H t a = some (.ro c p t,x):=by
 cases a <;> simp only [gq,reduceCtorEq] at h
 case ro c q t' =>
  simp only [Option.some.injEq] at h
  subst h
  exact ⟨c,_,rfl⟩
 case sl o off len g =>
  split at h
  ·rename_i ob hl
   split at h
   ·cases h
   ·rename_i hi
    exact ⟨if ob.z = 0∧ah ob.p = 0 then 0 else 2,⟨[o],[ob.tg]⟩,by simp [eU,dY,hl,hi,h]⟩
  ·cases h
def wP:AV→Bool
 | .bool _ | .int _ _ | .str _ | .gy | .jA | .gY=>true
 | .agg (.pb _) | .agg (.pi _ _)=>true
 | _=>false
theorem OX {H:Heap} {t:Nat} {a:AV} (h:wP a = true):eU H t a = some (a,⟨[],[]⟩):=by
 cases a <;> simp only [wP,Bool.false_eq_true] at h <;> try rfl
 case agg p=>cases p <;> simp only [wP,Bool.false_eq_true] at h <;> rfl
theorem IU {a:AV} (h:wP a = true):ids a = []∧tags a = []:=by
 cases a <;> simp only [wP,Bool.false_eq_true] at h <;> try exact ⟨rfl,rfl⟩
 case agg p=>cases p <;> simp only [wP,Bool.false_eq_true] at h <;> exact ⟨rfl,rfl⟩
def faV (H:Heap) (x:AV) (off:Nat):Option AV :=
 match x with
 | .ptr o i f g=>match live H o g with | some ob=>some (yH ob.p o i f g off) | none=>none
 | .iR p i f t=>some (yI p i f t off)
 | _=>none
def fvV (C:Ctx) (x:AV) (off ty:Nat):Option AV :=
 match x with
 | .agg (.pc l) =>
  if aX C ty then
   if ((l.drop off).take (sizeT C ty)).length = sizeT C ty then (mG C ty ((l.drop off).take (sizeT C ty))).map .agg else none
  else if okT C ty then l[off]? else none
 | _=>none
theorem aY {C:Ctx} {s:TypeId} {n off:Nat} {ty:TypeId} (h:((fieldsOf C s)[n]?).map (fun fd=>(fd.offset,fd.type)) = some (off,ty)) (hs:(sizeT C ty == 0) = false) (H:Heap) (x:AV) :
  aW C H s x n = faV H x off:=by
 cases hf:(fieldsOf C s)[n]? with
 | none=>rw [hf] at h;cases h
 | some fd =>
  rw [hf] at h
  simp only [Option.map_some,Option.some.injEq,Prod.mk.injEq] at h
  obtain ⟨rfl,rfl⟩:=h
  have:¬ sizeT C fd.type = 0:=by simpa using hs
  unfold aW faV
  rw [hf]
  simp only [if_neg this]
  cases x <;> rfl
theorem dH {C:Ctx} {s:TypeId} {n off:Nat} {ty:TypeId} (h:((fieldsOf C s)[n]?).map (fun fd=>(fd.offset,fd.type)) = some (off,ty)) (x:AV) :
  eG C s x n = fvV C x off ty:=by
 cases hf:(fieldsOf C s)[n]? with
 | none=>rw [hf] at h;cases h
 | some fd =>
  rw [hf] at h
  simp only [Option.map_some,Option.some.injEq,Prod.mk.injEq] at h
  obtain ⟨rfl,rfl⟩:=h
  unfold eG fvV
  rw [hf]
  cases x <;> try rfl
  case agg p=>cases p <;> rfl
section
variable {C:Ctx} {f:Nat} {H:Heap}
theorem bU (i:Nat):aH C f H i [] = some ([],[]):=rfl
theorem dS {i:Nat} {a p:AV} {r as:List AV} {xs:List dZ} (hrw:C.rw f i = false) (h:gq H a = some p) (hr:aH C f H (i + 1) r = some (as,xs)) :
  ∃ c x,aH C f H i (a :: r) = some (.ro c p (i + 1) :: as,x :: xs):=by
 obtain ⟨c,x,hx⟩:=QU (t:=i + 1) h
 exact ⟨c,x,by simp only [aH,hrw,hx,hr]⟩
theorem dL {i:Nat} {a:AV} {r as:List AV} {xs:List dZ} (hrw:C.rw f i = false) (h:wP a = true) (hr:aH C f H (i + 1) r = some (as,xs)) :
  aH C f H i (a :: r) = some (a :: as,⟨[],[]⟩ :: xs):=by
 simp only [aH,hrw,OX h,hr]
theorem fM (H:Heap):reach H aG [] [] = []:=zM H [] aG
mutual
theorem jh {ρ:Nat→Nat→Option (Nat × Nat)} {τ:Nat→Nat}:(v:AV)→ids v = []→(∀ t ∈ tags v,τ t = t)→ren ρ τ v = v
 | .ptr ..,h,_=>by simp [ids] at h
 | .sl ..,h,_=>by simp [ids] at h
 | .map ..,h,_=>by simp [ids] at h
 | .ro c p t,_,ht=>by simp only [ren,ht t (by simp [tags])]
 | .iR p i f t,_,ht=>by simp only [ren,ht t (by simp [tags])]
 | .agg p,h,ht=>by simp only [ids] at h;simp only [tags] at ht;simp only [ren,jh p h ht]
 | .tup l,h,ht=>by simp only [ids] at h;simp only [tags] at ht;simp only [ren,eu l h ht]
 | .fn f l,h,ht=>by simp only [ids] at h;simp only [tags] at ht;simp only [ren,eu l h ht]
 | .pc l,h,ht=>by simp only [ids] at h;simp only [tags] at ht;simp only [ren,eu l h ht]
 | .pr e l,h,ht=>by simp only [ids] at h;simp only [tags] at ht;simp only [ren,eu l h ht]
 | .pm l,h,ht=>by simp only [ids] at h;simp only [tags] at ht;simp only [ren,eu l h ht]
 | .top,_,_=>rfl
 | .bool _,_,_=>rfl
 | .int _ _,_,_=>rfl
 | .str _,_,_=>rfl
 | .gy,_,_=>rfl
 | .jA,_,_=>rfl
 | .gY,_,_=>rfl
 | .pn,_,_=>rfl
 | .pb _,_,_=>rfl
 | .pi _ _,_,_=>rfl
theorem eu {ρ:Nat→Nat→Option (Nat × Nat)} {τ:Nat→Nat}:(l:List AV)→aJ l = []→(∀ t ∈ bQ l,τ t = t)→bZ ρ τ l = l
 | [],_,_=>rfl
 | a :: r,h,ht=>by
  simp only [aJ,List.append_eq_nil_iff] at h
  simp only [bQ,List.mem_append] at ht
  simp only [bZ,jh a h.1 (fun t h'=>ht t (.inl h')),eu r h.2 (fun t h'=>ht t (.inr h'))]
end
mutual
theorem gZ {ρ ρ':Nat→Nat→Option (Nat × Nat)} {τ τ':Nat→Nat}:(v:AV)→(∀ o g,o ∈ ids v→ρ o g = ρ' o g)→(∀ t ∈ tags v,τ t = τ' t)→ren ρ τ v = ren ρ' τ' v
 | .ptr o i f g,h,_=>by simp only [ren,h o g (by simp [ids])]
 | .sl o a b g,h,_=>by simp only [ren,h o g (by simp [ids])]
 | .map o g,h,_=>by simp only [ren,h o g (by simp [ids])]
 | .ro c p t,_,ht=>by simp only [ren,ht t (by simp [tags])]
 | .iR p i f t,_,ht=>by simp only [ren,ht t (by simp [tags])]
 | .agg p,h,ht=>by simp only [ids] at h;simp only [tags] at ht;simp only [ren,gZ p h ht]
 | .tup l,h,ht=>by simp only [ids] at h;simp only [tags] at ht;simp only [ren,oM l h ht]
 | .fn f l,h,ht=>by simp only [ids] at h;simp only [tags] at ht;simp only [ren,oM l h ht]
 | .pc l,h,ht=>by simp only [ids] at h;simp only [tags] at ht;simp only [ren,oM l h ht]
 | .pr e l,h,ht=>by simp only [ids] at h;simp only [tags] at ht;simp only [ren,oM l h ht]
 | .pm l,h,ht=>by simp only [ids] at h;simp only [tags] at ht;simp only [ren,oM l h ht]
 | .top,_,_=>rfl
 | .bool _,_,_=>rfl
 | .int _ _,_,_=>rfl
 | .str _,_,_=>rfl
 | .gy,_,_=>rfl
 | .jA,_,_=>rfl
 | .gY,_,_=>rfl
 | .pn,_,_=>rfl
 | .pb _,_,_=>rfl
 | .pi _ _,_,_=>rfl
theorem oM {ρ ρ':Nat→Nat→Option (Nat × Nat)} {τ τ':Nat→Nat}:(l:List AV)→(∀ o g,o ∈ aJ l→ρ o g = ρ' o g)→(∀ t ∈ bQ l,τ t = τ' t)→bZ ρ τ l = bZ ρ' τ' l
 | [],_,_=>rfl
 | a :: r,h,ht=>by
  simp only [aJ,List.mem_append] at h
  simp only [bQ,List.mem_append] at ht
  simp only [bZ,gZ a (fun o g h'=>h o g (.inl h')) (fun t h'=>ht t (.inl h')),oM r (fun o g h'=>h o g (.inr h')) (fun t h'=>ht t (.inr h'))]
end
theorem lT (l:List Nat):disjoint l [] = true:=lU.2 fun _ _ h=>by simp at h
theorem KY {aN:List dZ} {v:AV} {H1:Heap} (hi:ids v = []) (ht:tags v = []):wrap H [] aN v H1 = some (v,H):=by
 unfold wrap
 simp only [List.length_nil,List.range_zero,List.nil_append,hi,fM,List.filter_nil,List.map_nil,ht,aA,List.append_nil,List.all_nil,if_true,List.flatMap_nil,strike,dw]
 rw [jh v hi (by simp [ht])]
def fresh (ob:Obj):Obj:={ ob with g:=0,tg:=0 }
def jw:AV→Bool
 | .pb _ | .pi _ _ | .pn=>true
 | _=>false
theorem rY {ρ:Nat→Nat→Option (Nat × Nat)} {τ:Nat→Nat} {p:AV} (h:jw p = true):ren ρ τ p = p:=by
 cases p <;> simp [jw] at h <;> rfl
theorem EK {H1:Heap} {o:Nat} {ob:Obj} (ho:H1[o]? = some (some ob)) (hob:ob.ids = false):reach H1 aG [o] [] = [o]:=by
 show reach H1 (99998 + 1 + 1) [o] [] = [o]
 simp [reach,ho,hob]
theorem QV {aN:List dZ} {v:AV} {H1:Heap} {o g:Nat} {ob:Obj} (hi:ids v = [o]) (ht:tags v = []) (hl:live H1 o g = some ob) (hob:ob.ids = false) (hp:jw ob.p = true) (htg:ob.tg = 0) :
  wrap H [] aN v H1 = some (ren (fun o' g'=>if o' = o∧g' = g then some (H.length,0) else none) (fun t=>t) v,H ++ [some (fresh ob)]):=by
 obtain ⟨h1,h2⟩:=bT.1 hl
 unfold wrap
 have hat:aZ H1 o = some ob:=by simp [aZ,h1]
 have QW:dB ob = [0]:=by
  unfold dB
  rw [hob,htg]
  cases hq:ob.p <;> simp [hq,jw] at hp <;> simp
 have hρ:ren (cu H [] [o] H1) (dF aN) v = ren (fun o' g'=>if o' = o∧g' = g then some (H.length,0) else none) (fun t=>t) v:=by
  have key:∀ o' g',o' ∈ ids v→cu H [] [o] H1 o' g' = if o' = o∧g' = g then some (H.length,0) else none:=by
   intro o' g' hm
   rw [hi] at hm
   simp only [List.mem_singleton] at hm
   subst hm
   unfold cu
   by_cases hg:g' = g
   ·subst hg
    rw [hl]
    simp [idxOf]
   ·have:live H1 o' g' = none:=by
     simp only [live,h1]
     rw [if_neg (fun e=>hg (e.symm.trans h2))]
    rw [this]
    simp [hg]
  exact gZ v (fun o' g' hm=>key o' g' hm) (by simp [ht])
 simp only [List.length_nil,List.range_zero,List.nil_append,hi,EK h1 hob,ht,aA,List.append_nil,List.map_nil,hat,QW,List.map_cons,Nat.zero_le,decide_true,List.filter_cons_of_pos,List.filter_nil,strike,dw]
 have h0:dQ aN 0 = some 0:=rfl
 simp only [List.all_cons,List.all_nil,h0,Option.isSome_some,Bool.and_true,if_true,List.flatMap_cons,List.flatMap_nil,dG,List.append_nil,List.filter_nil,strike,Option.map_some,Option.some.injEq,Prod.mk.injEq]
 refine ⟨hρ,?_⟩
 simp only [aU,rY hp,fresh,htg]
 rfl
variable {T:Cf}
theorem Ev1.plain (hT:Below C T) {args:List AV} {fn:Func} {c:Code} {as:List AV} {aN:List dZ} {out:Out} {l:List AV}
  (hF:C.P.funcs[f]? = some fn) (hb:fn.body = some c) (hl:aH C f H 0 args = some (as,aN)) (hi:aJ as = []) (hn:as.length + 1 < bW)
  (he:Run C T f 0 c (numbered 0 (coerce C as (aI C f))) [] out) (hex:out.ex = .normal∨out.ex = .ret) (hr:aQ C out.fr out.H fn.results.toList = some l)
  (hv:ids (aO l) = []) (ht:tags (aO l) = []):Ev1 C f args H (aO l,H):=by
 refine Ev1.of hT hF hb hl ?_ ?_ hex hr ?_
 ·rw [hi,fM]
  simp only [Bool.and_eq_true,decide_eq_true_eq]
  exact ⟨List.all_eq_true.2 fun x _=>lT x.objs,hn⟩
 ·rw [hi,fM,eu as hi (fun _ _=>rfl)]
  exact he
 ·rw [hi,fM]
  exact KY hv ht
theorem Ev1.fresh (hT:Below C T) {args:List AV} {fn:Func} {c:Code} {as:List AV} {aN:List dZ} {out:Out} {l:List AV} {o g:Nat} {ob:Obj}
  (hF:C.P.funcs[f]? = some fn) (hb:fn.body = some c) (hl:aH C f H 0 args = some (as,aN)) (hi:aJ as = []) (hn:as.length + 1 < bW)
  (he:Run C T f 0 c (numbered 0 (coerce C as (aI C f))) [] out) (hex:out.ex = .normal∨out.ex = .ret) (hr:aQ C out.fr out.H fn.results.toList = some l)
  (hv:ids (aO l) = [o]) (ht:tags (aO l) = []) (ho:live out.H o g = some ob) (hob:ob.ids = false) (hp:jw ob.p = true) (htg:ob.tg = 0) :
  Ev1 C f args H (ren (fun o' g'=>if o' = o∧g' = g then some (H.length,0) else none) (fun t=>t) (aO l),H ++ [some (AM.fresh ob)]):=by
 refine Ev1.of hT hF hb hl ?_ ?_ hex hr ?_
 ·rw [hi,fM]
  simp only [Bool.and_eq_true,decide_eq_true_eq]
  exact ⟨List.all_eq_true.2 fun x _=>lT x.objs,hn⟩
 ·rw [hi,fM,eu as hi (fun _ _=>rfl)]
  exact he
 ·rw [hi,fM]
  exact QV hv ht ho hob hp htg
end
-- what a call tells of what is aaJ,whatever the form in which it is handed over
section
variable {C:Ctx} {f:Nat} {H:Heap}
theorem CG {t:Nat} {a a':AV} {x:dZ} (h:dY H t a = some (a',x)) (hi:ids a' = []) :
  ∃ y:dZ,(∀ H2,dY H2 t a' = some (a',y))∧(∀ s ∈ y.tags,s = t)∧y.objs = []∧(y.tags = []→x.tags = []∧x.objs = []):=by
 cases a
 case sl o off len g =>
  simp only [dY] at h
  split at h
  ·rename_i ob hl
   split at h
   ·cases h
   ·simp only [Option.map_eq_some_iff,Prod.mk.injEq] at h
    obtain ⟨p,_,rfl,rfl⟩:=h
    exact ⟨⟨[],[t]⟩,fun _=>rfl,by simp,rfl,by simp⟩
  ·cases h
 case ro c p t' =>
  simp only [dY,Option.some.injEq,Prod.mk.injEq] at h
  obtain ⟨rfl,rfl⟩:=h
  exact ⟨⟨[],[t]⟩,fun _=>rfl,by simp,rfl,by simp⟩
 case iR p i g t' =>
  simp only [dY,Option.some.injEq,Prod.mk.injEq] at h
  obtain ⟨rfl,rfl⟩:=h
  exact ⟨⟨[],[t]⟩,fun _=>rfl,by simp,rfl,by simp⟩
 all_goals
  simp only [dY] at h
  split at h
  ·rename_i ht
   simp only [Option.some.injEq,Prod.mk.injEq] at h
   obtain ⟨rfl,rfl⟩:=h
   exact ⟨⟨[],[]⟩,fun _=>by simp only [dY];rw [if_pos ht],by simp,rfl,fun _=>⟨rfl,rfl⟩⟩
  ·cases h
theorem xE {t:Nat}:∀ {l l':List AV} {x:dZ},iO H t l = some (l',x)→aJ l' = [] →
  ∃ y:dZ,(∀ H2,iO H2 t l' = some (l',y))∧(∀ s ∈ y.tags,s = t)∧y.objs = []∧(y.tags = []→x.tags = []∧x.objs = [])
 | [],l',x,h,_=>by
  simp only [iO,Option.some.injEq,Prod.mk.injEq] at h
  obtain ⟨rfl,rfl⟩:=h
  exact ⟨⟨[],[]⟩,fun _=>rfl,by simp,rfl,fun _=>⟨rfl,rfl⟩⟩
 | a :: l,l',x,h,hi=>by
  simp only [iO] at h
  split at h
  ·rename_i a' x1 r' x2 e1 e2
   simp only [Option.some.injEq,Prod.mk.injEq] at h
   obtain ⟨rfl,rfl⟩:=h
   simp only [aJ,List.append_eq_nil_iff] at hi
   obtain ⟨y1,q1,q2,q3,q4⟩:=CG e1 hi.1
   obtain ⟨y2,p1,p2,p3,p4⟩:=xE e2 hi.2
   refine ⟨⟨y1.objs ++ y2.objs,y1.tags ++ y2.tags⟩,fun H2=>by simp only [iO,q1,p1],?_,by simp [q3,p3],?_⟩
   ·intro s hs
    rcases List.mem_append.1 hs with hs | hs
    ·exact q2 s hs
    ·exact p2 s hs
   ·intro hy
    simp only [List.append_eq_nil_iff] at hy
    obtain ⟨h1,h2⟩:=q4 hy.1
    obtain ⟨h3,h4⟩:=p4 hy.2
    simp [h1,h2,h3,h4]
  ·cases h
theorem KZ {t:Nat} {a a':AV} {x:dZ} (h:eU H t a = some (a',x)) (hi:ids a' = []) :
  ∃ y:dZ,(∀ H2,eU H2 t a' = some (a',y))∧(∀ s ∈ y.tags,s = t)∧y.objs = []∧(y.tags = []→x.tags = []∧x.objs = []):=by
 unfold eU at h
 split at h
 ·rename_i l
  cases hl:iO H t l with
  | none=>rw [hl] at h;cases h
  | some z =>
   obtain ⟨l',x'⟩:=z
   rw [hl] at h
   simp only [Option.map_some,Option.some.injEq,Prod.mk.injEq] at h
   obtain ⟨rfl,rfl⟩:=h
   obtain ⟨y,q1,q2⟩:=xE hl (by simpa [ids] using hi)
   exact ⟨y,fun H2=>by simp only [eU,q1 H2,Option.map_some],q2⟩
 ·rename_i g l
  cases hl:iO H t l with
  | none=>rw [hl] at h;cases h
  | some z =>
   obtain ⟨l',x'⟩:=z
   rw [hl] at h
   simp only [Option.map_some,Option.some.injEq,Prod.mk.injEq] at h
   obtain ⟨rfl,rfl⟩:=h
   obtain ⟨y,q1,q2⟩:=xE hl (by simpa [ids] using hi)
   exact ⟨y,fun H2=>by simp only [eU,q1 H2,Option.map_some],q2⟩
 ·rename_i n1 n2
  obtain ⟨y,q1,q2⟩:=CG h hi
  refine ⟨y,fun H2=>?_,q2⟩
  unfold eU
  split
  ·rename_i l
   exfalso
   cases a <;> simp only [dY] at h <;> first | (split at h <;> first | (simp only [Option.some.injEq,Prod.mk.injEq] at h;cases h.1;exact n1 _ rfl) | cases h | skip) | skip
   all_goals simp_all
  ·rename_i g l
   exfalso
   cases a <;> simp only [dY] at h <;> first | (split at h <;> first | (simp only [Option.some.injEq,Prod.mk.injEq] at h;cases h.1;exact n2 _ _ rfl) | cases h | skip) | skip
   all_goals simp_all
  ·exact q1 H2
theorem wQ:∀ {args as:List AV} {i:Nat} {xs:List dZ},aH C f H i args = some (as,xs)→aJ as = [] →
  ∃ ys:List dZ,(∀ H2,aH C f H2 i as = some (as,ys))∧ys.length = xs.length ∧
   ∀ k y,ys[k]? = some y→∃ x,xs[k]? = some x∧(∀ s ∈ y.tags,s = i + k + 1)∧y.objs = []∧(y.tags = []→x.tags = []∧x.objs = [])
 | [],as,i,xs,h,_=>by
  simp only [aH,Option.some.injEq,Prod.mk.injEq] at h
  obtain ⟨rfl,rfl⟩:=h
  exact ⟨[],fun _=>rfl,rfl,fun k y h=>by simp at h⟩
 | a :: l,as,i,xs,h,hi=>by
  have e:∀ (H:Heap) (a:AV) (l:List AV),ids a = []→aH C f H i (a :: l) = match eU H (i + 1) a,aH C f H (i + 1) l with
    | some (a',x),some (r',y)=>some (a' :: r',x :: y)
    | _,_=>none:=by
   intro H a l ha
   cases a
   case sl o off len g=>simp [ids] at ha
   all_goals
    simp only [aH]
    generalize eU H (i + 1) _ = x
    generalize aH C f H (i + 1) l = y
    cases C.rw f i <;> rcases x with _ | ⟨_,_⟩ <;> rcases y with _ | ⟨_,_⟩ <;> rfl
  simp only [aH] at h
  split at h
  ·rename_i a' x1 r' x2 e1 e2
   simp only [Option.some.injEq,Prod.mk.injEq] at h
   obtain ⟨rfl,rfl⟩:=h
   simp only [aJ,List.append_eq_nil_iff] at hi
   have e3:eU H (i + 1) a = some (a',x1):=by
    split at e1
    ·simp only [Option.some.injEq,Prod.mk.injEq] at e1
     obtain ⟨rfl,rfl⟩:=e1
     simp [ids] at hi
    ·exact e1
   obtain ⟨y1,q1,q2,q3,q4⟩:=KZ e3 hi.1
   obtain ⟨ys,p1,p2,p3⟩:=wQ e2 hi.2
   refine ⟨y1 :: ys,fun H2=>by rw [e H2 a' r' hi.1,q1,p1],by simp [p2],fun k y hy=>?_⟩
   cases k with
   | zero =>
    simp only [List.getElem?_cons_zero,Option.some.injEq] at hy
    subst hy
    exact ⟨x1,rfl,q2,q3,q4⟩
   | succ k =>
    obtain ⟨x,h1,h2,h3⟩:=p3 k y (by simpa using hy)
    exact ⟨x,by simpa using h1,fun s hs=>by rw [h2 s hs];omega,h3⟩
  ·cases h
mutual
theorem jW {ρ:Nat→Nat→Option (Nat × Nat)} {τ:Nat→Nat}:(v:AV)→tags (ren ρ τ v) = (tags v).map τ
 | .ptr o i f g=>by simp only [ren];rcases ρ o g with _ | ⟨_,_⟩ <;> rfl
 | .sl o a b g=>by simp only [ren];rcases ρ o g with _ | ⟨_,_⟩ <;> rfl
 | .map o g=>by simp only [ren];rcases ρ o g with _ | ⟨_,_⟩ <;> rfl
 | .ro c p t=>rfl
 | .iR p i f t=>rfl
 | .agg p=>by simp only [ren,tags,jW p]
 | .tup l=>by simp only [ren,tags,kZ l]
 | .fn f l=>by simp only [ren,tags,kZ l]
 | .pc l=>by simp only [ren,tags,kZ l]
 | .pr e l=>by simp only [ren,tags,kZ l]
 | .pm l=>by simp only [ren,tags,kZ l]
 | .top=>rfl
 | .bool _=>rfl
 | .int _ _=>rfl
 | .str _=>rfl
 | .gy=>rfl
 | .jA=>rfl
 | .gY=>rfl
 | .pn=>rfl
 | .pb _=>rfl
 | .pi _ _=>rfl
theorem kZ {ρ:Nat→Nat→Option (Nat × Nat)} {τ:Nat→Nat}:(l:List AV)→bQ (bZ ρ τ l) = (bQ l).map τ
 | []=>rfl
 | a :: r=>by simp only [bZ,bQ,List.map_append,jW a,kZ r]
end
theorem La {ρ:Nat→Nat→Option (Nat × Nat)} {τ:Nat→Nat} {g:Nat} (ob:Obj):dB (aU ρ τ g ob) = (dB ob).map τ:=by
 unfold dB aU
 simp only
 split
 ·exact jW ob.p
 ·simp only [List.map_cons,List.cons.injEq,true_and]
  cases ob.p <;> simp only [ren,List.map_nil]
  case ptr o i f g=>rcases ρ o g with _ | ⟨_,_⟩ <;> rfl
  case sl o a b g=>rcases ρ o g with _ | ⟨_,_⟩ <;> rfl
  case map o g=>rcases ρ o g with _ | ⟨_,_⟩ <;> rfl
  case pm l=>exact kZ l
theorem rZ {ρ:Nat→Nat→Option (Nat × Nat)} {τ:Nat→Nat} {g:Nat→Nat}:∀ (l:List (Option Obj)),aA (l.map fun x=>x.map fun ob=>aU ρ τ (g ob.g) ob) = (aA l).map τ
 | []=>rfl
 | none :: r=>by simp only [List.map_cons,Option.map_none,aA,rZ r]
 | some ob :: r=>by simp only [List.map_cons,Option.map_some,aA,List.map_append,La,rZ r]
theorem qH {t:Nat} (ht:t ≠ 0):∀ {l:List Nat},(∀ s ∈ l,s = t)→l ≠ []→dU l = some t
 | [],_,h=>absurd rfl h
 | a :: [],h,_=>by
  have:=h a (by simp)
  subst this
  simp [dU,fA,ht]
 | a :: b :: r,h,_=>by
  have:=h a (by simp)
  subst this
  have ih:=qH ht (l:=b :: r) (fun s hs=>h s (by simp at hs ⊢;right;exact hs)) (by simp)
  rw [dU,ih]
  simp [fA,ht]
def xG (v:AV):Bool:=(tags v).all (· == 0)
def qI (N:Heap):Bool:=N.all fun | some ob=>ob.tg == 0 && (tags ob.p).all (· == 0) | none=>true
theorem Lc {v:AV} (h:xG v = true):∀ t ∈ tags v,t = 0:=fun t ht=>by simpa using List.all_eq_true.1 h t ht
theorem CJ {N:Heap} (h:qI N = true) {ob:Obj} (ho:some ob ∈ N):ob.tg = 0∧∀ t ∈ tags ob.p,t = 0:=by
 have:=List.all_eq_true.1 h _ ho
 simp only [Bool.and_eq_true,beq_iff_eq,List.all_eq_true] at this
 exact this
theorem Uw {ob:Obj} (h:ob.tg = 0∧∀ t ∈ tags ob.p,t = 0):∀ t ∈ dB ob,t = 0:=by
 intro t ht
 unfold dB at ht
 split at ht
 ·exact h.2 t ht
 ·rcases List.mem_cons.1 ht with rfl | ht
  ·exact h.1
  ·cases hp:ob.p <;> rw [hp] at ht <;> simp only [List.not_mem_nil] at ht
   rw [hp] at h
   exact h.2 t ht
theorem zN:∀ {N:Heap},qI N = true→∀ t ∈ aA N,t = 0
 | [],_,t,ht=>by simp [aA] at ht
 | none :: r,h,t,ht=>by
  refine zN (N:=r) ?_ t (by simpa [aA] using ht)
  simpa [qI] using h
 | some ob :: r,h,t,ht=>by
  simp only [aA,List.mem_append] at ht
  rcases ht with ht | ht
  ·exact Uw (CJ h (by simp)) t ht
  ·refine zN (N:=r) ?_ t ht
   simp only [qI,List.all_cons,Bool.and_eq_true] at h
   exact h.2
theorem Ev1.aaJ {args as:List AV} {xs:List dZ} {v:AV} {N:Heap} (h:Ev1 C f as [] (v,N)) (hl:aH C f H 0 args = some (as,xs)) (hi:aJ as = [])
  (hcv:xG v = true) (hcN:qI N = true):Ev1 C f args H (dM H.length v,H ++ kG H.length N):=by
 have hv:=Lc hcv
 have hN:=zN hcN
 obtain ⟨ys,k1,k2,k3⟩:=wQ hl hi
 obtain ⟨n0,h0⟩:=h
 have kz:∀ t,dF (ys ++ [⟨[],[]⟩]) t = 0→dF (xs ++ [⟨[],[]⟩]) t = 0:=by
  intro t hb0
  unfold dF dQ at hb0 ⊢
  split
  ·rfl
  ·rename_i ht0
   rw [if_neg ht0] at hb0
   by_cases hlt:t - 1 < ys.length
   ·rw [List.getElem?_append_left hlt,List.getElem?_eq_getElem hlt] at hb0
    simp only at hb0
    obtain ⟨x,q1,q2,q3,q4⟩:=k3 (t - 1) _ (List.getElem?_eq_getElem hlt)
    rw [List.getElem?_append_left (by omega),q1]
    simp only
    have hnil:(ys[t - 1]).tags = []:=by
     apply Classical.byContradiction
     intro hne
     have:=qH (t:=0 + (t - 1) + 1) (by omega) q2 hne
     rw [this] at hb0
     simp at hb0
    rw [(q4 hnil).1]
    rfl
   ·by_cases hlt2:t - 1 = ys.length
    ·have e:(xs ++ [(⟨[],[]⟩:dZ)])[t - 1]? = some ⟨[],[]⟩:=by
      rw [List.getElem?_append_right (by omega),hlt2,k2]
      simp
     rw [e]
     rfl
    ·have e:(xs ++ [(⟨[],[]⟩:dZ)])[t - 1]? = none:=by
      rw [List.getElem?_eq_none]
      simp
      omega
     rw [e]
     rfl
 refine ⟨n0 + 1,fun n hn=>?_⟩
 obtain ⟨n,rfl⟩:∃ i,n = i + 1:=⟨n - 1,by omega⟩
 have h1:=h0 (n + 1) (by omega)
 simp only [kN,jG] at h1 ⊢
 rw [k1 []] at h1
 rw [hl]
 simp only at h1 ⊢
 rw [hi] at h1 ⊢
 simp only [zM,List.map_nil,List.length_nil] at h1 ⊢
 rw [eu as hi (fun _ _=>rfl)] at h1 ⊢
 split at h1
 ·rename_i hc
  have hc':((xs.all fun x=>disjoint x.objs []) && decide (as.length + 1 < bW)) = true:=by
   simp only [Bool.and_eq_true] at hc ⊢
   exact ⟨List.all_eq_true.2 fun x _=>lT x.objs,hc.2⟩
  rw [if_pos hc']
  split at h1
  ·cases h1
  ·rename_i u H1 hb
   unfold wrap at h1 ⊢
   simp only [List.length_nil,List.range_zero,List.nil_append,List.map_nil,aA,List.append_nil] at h1 ⊢
   generalize hnew:(List.filter (fun o=>decide (0≤o)) (reach H1 aG (ids u) [])) = new at h1 ⊢
   split at h1
   ·rename_i hu
    simp only [Option.some.injEq,Prod.mk.injEq] at h1
    obtain ⟨h2,h3⟩:=h1
    have Xd:∀ t,dG (ys ++ [⟨[],[]⟩]) t = []:=by
     intro t
     unfold dG
     split
     ·rfl
     ·split
      ·rename_i x hx
       rcases List.mem_append.1 (List.mem_of_getElem? hx) with hx | hx
       ·obtain ⟨k,hk⟩:=List.getElem?_of_mem hx
        obtain ⟨_,_,_,q,_⟩:=k3 k x hk
        exact q
       ·simp only [List.mem_singleton] at hx
        rw [hx]
      ·rfl
    have ajz:∀ l:List Nat,l.flatMap (dG (ys ++ [⟨[],[]⟩])) = []:=fun l=>by simp [Xd]
    simp only [ajz,List.filter_nil] at h3
    simp only [List.filter_nil,strike,dw,List.nil_append] at h3
    -- all tags used are none
    have hz:∀ t ∈ tags u ++ aA (new.map (aZ H1)),dF (ys ++ [⟨[],[]⟩]) t = 0:=by
     intro t ht
     rcases List.mem_append.1 ht with ht | ht
     ·refine hv _ ?_
      rw [← h2,jW]
      exact List.mem_map.2 ⟨t,ht,rfl⟩
     ·refine hN _ ?_
      rw [← h3]
      have:=rZ (ρ:=cu [] [] new H1) (τ:=dF (ys ++ [⟨[],[]⟩])) (g:=fun _=>0) (new.map (aZ H1))
      rw [List.map_map] at this
      rw [show (fun o=>Option.map (aU (cu [] [] new H1) (dF (ys ++ [⟨[],[]⟩])) 0) (aZ H1 o)) = ((fun x:Option Obj=>x.map fun ob=>aU (cu [] [] new H1) (dF (ys ++ [⟨[],[]⟩])) 0 ob) ∘ aZ H1) from rfl,this]
      exact List.mem_map.2 ⟨t,ht,rfl⟩
    have hk:∀ t ∈ tags u ++ aA (new.map (aZ H1)),dQ (xs ++ [⟨[],[]⟩]) t = some 0∧dG (xs ++ [⟨[],[]⟩]) t = []:=by
     intro t ht
     have hb0:=hz t ht
     have hs:=List.all_eq_true.1 hu t ht
     by_cases ht0:t = 0
     ·subst ht0
      exact ⟨rfl,rfl⟩
     ·unfold dF at hb0
      unfold dQ at hb0 hs ⊢
      unfold dG
      rw [if_neg ht0] at hb0 hs ⊢
      rw [if_neg ht0]
      by_cases hlt:t - 1 < ys.length
      ·rw [List.getElem?_append_left hlt,List.getElem?_eq_getElem hlt] at hb0 hs
       simp only at hb0 hs
       obtain ⟨x,q1,q2,q3,q4⟩:=k3 (t - 1) _ (List.getElem?_eq_getElem hlt)
       rw [List.getElem?_append_left (by omega),q1]
       simp only
       have hnil:(ys[t - 1]).tags = []:=by
        apply Classical.byContradiction
        intro hne
        have:=qH (t:=0 + (t - 1) + 1) (by omega) q2 hne
        rw [this] at hb0
        simp at hb0
       obtain ⟨q5,q6⟩:=q4 hnil
       rw [q5,q6]
       exact ⟨rfl,rfl⟩
      ·by_cases hlt2:t - 1 = ys.length
       ·have e:(xs ++ [(⟨[],[]⟩:dZ)])[t - 1]? = some ⟨[],[]⟩:=by
         rw [List.getElem?_append_right (by omega),hlt2,k2]
         simp
        rw [e]
        exact ⟨rfl,rfl⟩
       ·have e:(ys ++ [(⟨[],[]⟩:dZ)])[t - 1]? = none:=by
         rw [List.getElem?_eq_none]
         simp
         omega
        rw [e] at hs
        cases hs
    have hu':((tags u ++ aA (new.map (aZ H1))).all fun t=>(dQ (xs ++ [⟨[],[]⟩]) t).isSome) = true:=List.all_eq_true.2 fun t ht=>by rw [(hk t ht).1];rfl
    rw [if_pos hu']
    have hfl:(tags u ++ aA (new.map (aZ H1))).flatMap (dG (xs ++ [⟨[],[]⟩])) = []:=List.flatMap_eq_nil_iff.2 fun t ht=>(hk t ht).2
    rw [hfl]
    simp only [List.filter_nil,strike,dw,Option.some.injEq,Prod.mk.injEq]
    have Ec:∀ o g,cu H [] new H1 o g = (cu [] [] new H1 o g).map fun x=>(x.1 + H.length,x.2):=by
     intro o g
     unfold cu
     split
     ·have:=uG new o 0 H.length
      rw [Nat.zero_add] at this
      simp [this,Option.map_map,Function.comp_def]
     ·rfl
    have hτ:∀ t ∈ tags u ++ aA (new.map (aZ H1)),dF (xs ++ [⟨[],[]⟩]) t = dF (ys ++ [⟨[],[]⟩]) t:=fun t ht=>by
     rw [hz t ht]
     unfold dF
     rw [(hk t ht).1]
     rfl
    refine ⟨?_,?_⟩
    ·rw [← h2,← oL Ec u]
     exact gZ u (fun _ _ _=>rfl) fun t ht=>hτ t (List.mem_append_left _ ht)
    ·rw [← h3]
     congr 1
     simp only [kG,List.map_map]
     refine List.map_congr_left fun o ho=>?_
     simp only [Function.comp]
     cases hob:aZ H1 o with
     | none=>rfl
     | some ob =>
      have hmem:some (aU (cu [] [] new H1) (dF (ys ++ [⟨[],[]⟩])) 0 ob) ∈ N:=by
       rw [← h3]
       exact List.mem_map.2 ⟨o,ho,by rw [hob];rfl⟩
      obtain ⟨c1,c2⟩:=CJ hcN hmem
      simp only [aU] at c1 c2
      have e1:=oL (τ:=dF (ys ++ [⟨[],[]⟩])) Ec ob.p
      simp only [dM] at e1
      have e2:ren (cu H [] new H1) (dF (xs ++ [⟨[],[]⟩])) ob.p = ren (cu H [] new H1) (dF (ys ++ [⟨[],[]⟩])) ob.p:=by
       refine gZ ob.p (fun _ _ _=>rfl) fun t ht=>?_
       have:dF (ys ++ [⟨[],[]⟩]) t = 0:=c2 _ (by rw [jW];exact List.mem_map.2 ⟨t,ht,rfl⟩)
       rw [this,kz t this]
      simp only [Option.map_some,aU,Option.some.injEq]
      rw [← e1,e2,kz _ c1,c1]
   ·cases h1
 ·cases h1
def yJ (C:Ctx) (S:Nat→List AV→Option (AV × Heap)):Cf:=fun f args H =>
 match aH C f H 0 args with
 | some (as,_)=>if (aJ as).isEmpty then match S f as with
   | some (v,N)=>if (xG v && qI N) = true then some (dM H.length v,H ++ kG H.length N) else none
   | none=>none
  else none
 | none=>none
theorem uH {S:Nat→List AV→Option (AV × Heap)} (hS:∀ f as v N,S f as = some (v,N)→Ev1 C f as [] (v,N)):Below C (yJ C S):=by
 intro f args H r h
 unfold yJ at h
 split at h
 ·rename_i as xs hl
  split at h
  ·rename_i hi
   split at h
   ·rename_i v N hs
    split at h
    ·rename_i hc
     simp only [Bool.and_eq_true] at hc
     rw [← Option.some.inj h]
     exact Ev1.aaJ (hS f as v N hs) hl (List.isEmpty_iff.1 hi) hc.1 hc.2
    ·cases h
   ·cases h
  ·cases h
 ·cases h
def aaK (L:List Row1) (f:Nat) (as:List AV):Option (AV × Heap):=(L.find? fun e=>e.f == f && eqL e.args as).map fun e=>(e.res,e.N)
def rowT (C:Ctx) (L:List Row1):Cf:=fun f args H=>if (L.any fun e=>e.f == f) then yJ C (aaK L) f args H else none
theorem CO {L:List Row1} (h:kH C L):Below C (rowT C L):=by
 intro f args H r hr
 unfold rowT at hr
 split at hr
 ·refine uH (fun f as v N hs=>?_) f args H r hr
  unfold aaK at hs
  obtain ⟨e,he,h1⟩:=Option.map_eq_some_iff.1 hs
  simp only [Prod.mk.injEq] at h1
  obtain ⟨rfl,rfl⟩:=h1
  have h3:=List.find?_some he
  simp only [Bool.and_eq_true,beq_iff_eq] at h3
  rw [← h3.1,← xH _ _ h3.2]
  exact (h e (List.mem_of_find?_eq_some he)).1
 ·cases hr
end
def jQ (id:Nat) (o:Out):Out:=match o.ex with
 | .exit i=>if i = id then ⟨.normal,o.fr,o.H⟩ else o
 | _=>o
section
variable {C:Ctx} {T:Cf} {f m:Nat} {fr:Frame} {H:Heap} {out:Out}
theorem Run.block' {id:Nat} {c:Code} {o:Out} (h:Run C T f m c fr H o):Run C T f m (.block id c) fr H (jQ id o):=by
 obtain ⟨ex,fr',H'⟩:=o
 cases ex with
 | normal=>exact Run.block h (fun e=>by cases e)
 | ret=>exact Run.block h (fun e=>by cases e)
 | exit i =>
  by_cases hi:i = id
  ·subst hi
   simp only [jQ,if_true]
   exact Run.eF h
  ·simp only [jQ,hi,if_false]
   exact Run.block h (by simpa using hi)
theorem Run.seq' {a b:Code} {o:Out} (h:Run C T f m a fr H o) (h1:∀ fr' H',o = ⟨.normal,fr',H'⟩→Run C T f m b fr' H' out) (h2:o.ex ≠ .normal→o = out):Run C T f m (.seq a b) fr H out:=by
 obtain ⟨ex,fr',H'⟩:=o
 cases ex with
 | normal=>exact Run.seq h (h1 fr' H' rfl)
 | ret=>have:=h2 (by simp);subst this;exact Run.bH h (by simp)
 | exit i=>have:=h2 (by simp);subst this;exact Run.bH h (by simp)
end
end Go.AM
namespace Go.AM
attribute [go_sem] exec kY yK jX step fB aC dV gX au jB iQ ak qg iU qh bY CP jH aK rD jR lenV Ed unV arith Gw yL lg live upd Gx OY IV Ee retag uI oh qj nJ dU fA tags ids scalar aS tH faV fvV yH yI
end Go.AM
namespace Go.AM
theorem Xe {k:IntKind} (hk:k.signed = false) {n:Int} (h0:0≤n) (h1:n < 2 ^ k.bits):k.wrap n = n:=by
 simp only [IntKind.wrap,hk,Bool.false_and,Bool.false_eq_true,if_false]
 exact Int.emod_eq_of_lt h0 h1
theorem wrap_u64 {n:Int} (h0:0≤n) (h1:n < 18446744073709551616):IntKind.u64.wrap n = n:=Xe rfl h0 (by exact h1)
theorem wrap_i64 {n:Int} (h0:-9223372036854775808≤n) (h1:n < 9223372036854775808):IntKind.i64.wrap n = n:=by
 have e1:IntKind.i64.bits = 64:=rfl
 have e2:IntKind.i64.signed = true:=rfl
 simp only [IntKind.wrap,e1,e2,Bool.true_and,decide_eq_true_eq]
 have p64:(2:Int) ^ 64 = 18446744073709551616:=rfl
 have p63:(2:Int) ^ (64 - 1) = 9223372036854775808:=rfl
 rw [p64,p63]
 by_cases hn:0≤n
 ·rw [Int.emod_eq_of_lt hn (by omega),if_neg (by omega)]
 ·have:n % 18446744073709551616 = n + 18446744073709551616:=by omega
  rw [this,if_pos (by omega)]
  omega
end Go.AM
namespace Go.AM
open Go.ChangeShapes Go.WideShapes Go.ChangeAt Go.RowKit
section
variable {H:Type} {enc:TypeId × Value→H} {P:Program} {W:World}
theorem QX {b t:Nat} (hb:b < W.heap.size) (ht:t ≠ 0):NT (start W) (T0 W.heap.size) t b:=⟨.inr ht,vN W b,hb⟩
theorem aaL {n:Int} (h:(Lit.int .u8 n).wf = true):0≤n∧n < 256:=by
 have:IntKind.u8.min≤n∧n≤IntKind.u8.max:=by simpa [Lit.wf] using h
 have e1:IntKind.u8.min = 0:=rfl
 have e2:IntKind.u8.max = 255:=rfl
 omega
theorem QY {c:Nat} {l:List UInt8} {ad:Option Addr} {cap:Nat} (hs:BH c l.length ad cap)
  (hc:∀ a,ad = some a→l.length ≠ 0→a.spot = none∧a.block < W.heap.size∧∀ j b,l[j]? = some b→W.cell? ⟨a.block,a.off + j,none⟩ = some (.int .u8 (b.toNat:Int))) :
  ay (start W) (T0 W.heap.size) (.ro c (.pb l) 1) (.slice ad l.length cap):=by
 simp only [ay,aB,aP,RV]
 refine ⟨ad,cap,rfl,hs,fun a ha hn=>?_⟩
 obtain ⟨h1,h2,h3⟩:=hc a ha hn
 exact ⟨h1,QX h2 (by omega),by simp only [RP];exact h3⟩
theorem Gy {base:Nat} {t:TypeId} {k:IntKind} {v:Value} {d:DataW H} {ps:List MemPlace} (ht:P.underlying t = some (.int k)) (hval:Value.okWide P W .any base t v) (hd:DataW.Trod enc P W 0 (fun _=>true) true t v d ps) :
  ∃ n,(Lit.int k n).wf = true∧ay (start W) (T0 W.heap.size) (.int k n) v:=by
 obtain ⟨n,rfl,_,_,h⟩:=open_int ht hval hd
 exact ⟨n,h,by simp [ay,aB,aP,RV]⟩
end
end Go.AM
namespace Go.AM
def rt (t:Nat) (p:AV):AV:=ren (fun _ _=>none) (fun _=>t) p
def bk (n t:Nat) (k:Nat):Nat:=if k = n then t else 0
theorem lF {H:Heap} {o:Nat} {ob:Obj} (ho:H[o]? = some (some ob)) (hi:ids ob.p = []):reach H aG [o] [] = [o]:=by
 show reach H (99998 + 1 + 1) [o] [] = [o]
 simp [reach,ho,hi]
theorem Ld {H:Heap} {o o2:Nat} {ob ob2:Obj} (ho:H[o]? = some (some ob)) (hi:ids ob.p = []) (ho2:H[o2]? = some (some ob2)) (hi2:ids ob2.p = []) (hne:o2 ≠ o):reach H aG [o,o2] [] = [o,o2]:=by
 show reach H (99997 + 1 + 1 + 1) [o,o2] [] = [o,o2]
 simp [reach,ho,hi,ho2,hi2,hne]
theorem su {p:AV} (h:jw p = true):ids p = []:=by cases p <;> simp [jw] at h <;> rfl
section
variable {C:Ctx} {f:Nat} {H:Heap} {T:Cf}
theorem NK {ρ:Nat→Nat→Option (Nat × Nat)} {τ:Nat→Nat} {p:AV} (h:ids p = []):ids (ren ρ τ p) = []:=by
 have h1:ren ρ τ p = ren (fun o g=>some (o,g)) τ p:=gZ p (fun o g ho=>by rw [h] at ho;cases ho) (fun _ _=>rfl)
 rw [h1]
 exact (oW p).trans h
where
 oW:(p:AV)→ids (ren (fun o g=>some (o,g)) τ p) = ids p
  | .ptr .. | .sl .. | .map .. | .ro .. | .iR .. | .top | .bool _ | .int .. | .str _ | .gy | .jA | .gY | .pn | .pb _ | .pi ..=>rfl
  | .agg p=>by simp only [ren,ids];exact oW p
  | .tup l=>by simp only [ren,ids];exact lG l
  | .fn _ l=>by simp only [ren,ids];exact lG l
  | .pc l=>by simp only [ren,ids];exact lG l
  | .pr _ l=>by simp only [ren,ids];exact lG l
  | .pm l=>by simp only [ren,ids];exact lG l
 lG:(l:List AV)→aJ (bZ (fun o g=>some (o,g)) τ l) = aJ l
  | []=>rfl
  | a :: r=>by simp only [bZ,aJ];rw [oW a,lG r]
theorem Ev1.box (hT:Below C T) {o g:Nat} {ob ob1:Obj} {xs ys:List AV} {aN:List dZ} {fn:Func} {c:Code} {out:Out} {l:List AV} {rest:Heap} {n t:Nat}
  (hF:C.P.funcs[f]? = some fn) (hb:fn.body = some c) (hrw:C.rw f 0 = false) (ho:H[o]? = some (some ob)) (hg:ob.g = g) (hi:ids ob.p = [])
  (hl:aH C f H 1 xs = some (ys,aN)) (hiy:aJ ys = []) (hob:aN.all (fun x=>disjoint x.objs [o]) = true) (hn:ys.length + 2 = n) (hng:n < bW)
  (hj:dU (dB ob) = some t)
  (he:Run C T f 1 c (numbered 0 (coerce C (.ptr 0 0 0 0 :: ys) (aI C f))) [some { ob with p:=rt n ob.p,g:=0,tg:=n }] out)
  (hex:out.ex = .normal∨out.ex = .ret) (hr:aQ C out.fr out.H fn.results.toList = some l)
  (hH:out.H = some ob1 :: rest) (QZ:ob1.ids = true) (hi1:ids ob1.p = []) (hv:ids (aO l) = [])
  (hu:∀ k ∈ tags (aO l) ++ dB ob1,k = 0∨k = n) (ht1:ob1.tg = 0∨ob1.tg = n) :
  Ev1 C f (.ptr o 0 0 g :: xs) H (ren (fun _ _=>none) (bk n t) (aO l),upd H o (some { ob1 with p:=ren (fun _ _=>none) (bk n t) ob1.p,g:=g + (if ob1.g = 0 then 0 else 1),tg:=bk n t ob1.tg })):=by
 have hlive:live H o g = some ob:=by simp [live,ho,hg]
 have hat:aZ H o = some ob:=by simp [aZ,ho]
 have hl':aH C f H 0 (.ptr o 0 0 g :: xs) = some (.ptr o 0 0 g :: ys,⟨[],[]⟩ :: aN):=by
  simp only [aH,hrw]
  simp [eU,dY,tags,hl]
 have hre:reach H aG (aJ (.ptr o 0 0 g :: ys)) [] = [o]:=by
  rw [show aJ (.ptr o 0 0 g :: ys) = [o] by simp [aJ,ids,hiy]]
  exact lF ho hi
 have hin:dh H [o] o g = some (0,0):=by simp [dh,hlive,idxOf]
 have hlen:=jY hl
 have hn0:0 < n:=by omega
 refine Ev1.of (out:=out) (l:=l) hT hF hb hl' ?_ ?_ hex hr ?_
 ·rw [hre]
  simp only [List.all_cons,Bool.and_eq_true,decide_eq_true_eq,List.length_cons]
  exact ⟨⟨rfl,hob⟩,by omega⟩
 ·rw [hre]
  have e1:bZ (dh H [o]) (fun t=>t) (.ptr o 0 0 g :: ys) = .ptr 0 0 0 0 :: ys:=by
   simp only [bZ,ren,hin]
   rw [eu ys hiy (fun _ _=>rfl)]
  have e2:([o].map fun o'=>(aZ H o').map (aU (dh H [o]) (fun _=>(AV.ptr o 0 0 g :: ys).length + 1) 0)) = [some { ob with p:=rt n ob.p,g:=0,tg:=n }]:=by
   simp only [List.map_cons,List.map_nil,hat,Option.map_some,aU,List.length_cons]
   rw [show ys.length + 1 + 1 = n by omega]
   have e:ren (dh H [o]) (fun _=>n) ob.p = rt n ob.p:=gZ ob.p (fun o g h=>by rw [hi] at h;cases h) (fun _ _=>rfl)
   rw [e]
  rw [e1,e2]
  exact he
 ·rw [hre]
  unfold wrap
  have h0:out.H[0]? = some (some ob1):=by rw [hH];rfl
  have zO:aZ out.H 0 = some ob1:=by simp [aZ,h0]
  have Le:reach out.H aG (List.range [o].length ++ ids (aO l)) [] = [0]:=by
   rw [hv]
   exact lF h0 hi1
  have hbt:∀ k,k = 0∨k = n→dQ (⟨[],[]⟩ :: aN ++ [⟨[],aA ([o].map (aZ H))⟩]) k = some (bk n t k):=by
   rintro k (rfl | rfl)
   ·unfold dQ bk
    rw [if_pos rfl,if_neg (by omega)]
   ·unfold dQ bk
    rw [if_neg (by omega),if_pos rfl]
    rw [List.cons_append,show k - 1 = (k - 2) + 1 by omega,List.getElem?_cons_succ,List.getElem?_append_right (by omega),show k - 2 - aN.length = 0 by omega]
    simp [aA,hat,hj]
  have hgo:∀ k,k = 0∨k = n→dG (⟨[],[]⟩ :: aN ++ [⟨[],aA ([o].map (aZ H))⟩]) k = []:=by
   rintro k (rfl | rfl)
   ·rfl
   ·unfold dG
    rw [if_neg (by omega)]
    rw [List.cons_append,show k - 1 = (k - 2) + 1 by omega,List.getElem?_cons_succ,List.getElem?_append_right (by omega),show k - 2 - aN.length = 0 by omega]
    rfl
  generalize (⟨[],[]⟩ :: aN ++ [⟨[],aA ([o].map (aZ H))⟩]:List dZ) = L at *
  have hbT:∀ k,k = 0∨k = n→dF L k = bk n t k:=fun k hk=>by unfold dF;rw [hbt k hk];rfl
  simp only [Le]
  rw [show ([0].filter fun o'=>decide ([o].length≤o')) = [] from rfl]
  have hus:(tags (aO l) ++ aA ((List.range [o].length).map (aZ out.H)) ++ aA (([]:List Nat).map (aZ out.H))) = tags (aO l) ++ dB ob1:=by
   simp [aA,zO,List.range_succ]
  rw [hus]
  rw [if_pos (List.all_eq_true.2 fun k hk=>by rw [hbt k (hu k hk)];rfl)]
  rw [show (tags (aO l) ++ dB ob1).flatMap (dG L) = [] from List.flatMap_eq_nil_iff.2 fun k hk=>hgo k (hu k hk)]
  simp only [List.filter_nil,strike,List.map_nil,List.append_nil,dw,zO,Option.map_some,Option.some.injEq,Prod.mk.injEq]
  refine ⟨gZ _ (fun o g h=>by rw [hv] at h;cases h) (fun k hk=>hbT k (hu k (List.mem_append_left _ hk))),?_⟩
  have hgb:fJ H [o] 0 ob1.g = g + (if ob1.g = 0 then 0 else 1):=by simp [fJ,hat,hg]
  rw [hgb]
  congr 2
  simp only [aU]
  rw [hbT _ ht1]
  congr 1
  refine gZ _ (fun o g h=>by rw [hi1] at h;cases h) fun k hk=>?_
  unfold dB at hu
  rw [if_pos QZ] at hu
  exact hbT k (hu k (List.mem_append_right _ hk))
theorem Ev1.ajA (hT:Below C T) {o g:Nat} {ob ob1:Obj} {xs ys:List AV} {aN:List dZ} {fn:Func} {c:Code} {out:Out} {l:List AV} {rest:Heap} {n t o1 g1:Nat} {ob2:Obj}
  (hF:C.P.funcs[f]? = some fn) (hb:fn.body = some c) (hrw:C.rw f 0 = false) (ho:H[o]? = some (some ob)) (hg:ob.g = g) (hi:ids ob.p = [])
  (hl:aH C f H 1 xs = some (ys,aN)) (hiy:aJ ys = []) (hob:aN.all (fun x=>disjoint x.objs [o]) = true) (hn:ys.length + 2 = n) (hng:n < bW)
  (hj:dU (dB ob) = some t)
  (he:Run C T f 1 c (numbered 0 (coerce C (.ptr 0 0 0 0 :: ys) (aI C f))) [some { ob with p:=rt n ob.p,g:=0,tg:=n }] out)
  (hex:out.ex = .normal∨out.ex = .ret) (hr:aQ C out.fr out.H fn.results.toList = some l)
  (hH:out.H = some ob1 :: rest) (QZ:ob1.ids = true) (hi1:ids ob1.p = []) (hv:ids (aO l) = [o1]) (ho1:live out.H o1 g1 = some ob2) (hne:o1 ≠ 0) (ajB:ob2.ids = false) (hp2:jw ob2.p = true) (aaM:ob2.tg = 0)
  (hu:∀ k ∈ tags (aO l) ++ dB ob1,k = 0∨k = n) (ht1:ob1.tg = 0∨ob1.tg = n) :
  Ev1 C f (.ptr o 0 0 g :: xs) H (ren (fun o' g'=>if o' = o1∧g' = g1 then some (H.length,0) else none) (bk n t) (aO l),upd H o (some { ob1 with p:=ren (fun _ _=>none) (bk n t) ob1.p,g:=g + (if ob1.g = 0 then 0 else 1),tg:=bk n t ob1.tg }) ++ [some (AM.fresh ob2)]):=by
 have hlive:live H o g = some ob:=by simp [live,ho,hg]
 have hat:aZ H o = some ob:=by simp [aZ,ho]
 have hl':aH C f H 0 (.ptr o 0 0 g :: xs) = some (.ptr o 0 0 g :: ys,⟨[],[]⟩ :: aN):=by
  simp only [aH,hrw]
  simp [eU,dY,tags,hl]
 have hre:reach H aG (aJ (.ptr o 0 0 g :: ys)) [] = [o]:=by
  rw [show aJ (.ptr o 0 0 g :: ys) = [o] by simp [aJ,ids,hiy]]
  exact lF ho hi
 have hin:dh H [o] o g = some (0,0):=by simp [dh,hlive,idxOf]
 have hlen:=jY hl
 have hn0:0 < n:=by omega
 refine Ev1.of (out:=out) (l:=l) hT hF hb hl' ?_ ?_ hex hr ?_
 ·rw [hre]
  simp only [List.all_cons,Bool.and_eq_true,decide_eq_true_eq,List.length_cons]
  exact ⟨⟨rfl,hob⟩,by omega⟩
 ·rw [hre]
  have e1:bZ (dh H [o]) (fun t=>t) (.ptr o 0 0 g :: ys) = .ptr 0 0 0 0 :: ys:=by
   simp only [bZ,ren,hin]
   rw [eu ys hiy (fun _ _=>rfl)]
  have e2:([o].map fun o'=>(aZ H o').map (aU (dh H [o]) (fun _=>(AV.ptr o 0 0 g :: ys).length + 1) 0)) = [some { ob with p:=rt n ob.p,g:=0,tg:=n }]:=by
   simp only [List.map_cons,List.map_nil,hat,Option.map_some,aU,List.length_cons]
   rw [show ys.length + 1 + 1 = n by omega]
   have e:ren (dh H [o]) (fun _=>n) ob.p = rt n ob.p:=gZ ob.p (fun o g h=>by rw [hi] at h;cases h) (fun _ _=>rfl)
   rw [e]
  rw [e1,e2]
  exact he
 ·rw [hre]
  unfold wrap
  have h0:out.H[0]? = some (some ob1):=by rw [hH];rfl
  have zO:aZ out.H 0 = some ob1:=by simp [aZ,h0]
  obtain ⟨h1,h2⟩:=bT.1 ho1
  have Le:reach out.H aG (List.range [o].length ++ ids (aO l)) [] = [0,o1]:=by
   rw [hv]
   exact Ld h0 hi1 h1 (su hp2) hne
  have aaN:aZ out.H o1 = some ob2:=by simp [aZ,h1]
  have hbt:∀ k,k = 0∨k = n→dQ (⟨[],[]⟩ :: aN ++ [⟨[],aA ([o].map (aZ H))⟩]) k = some (bk n t k):=by
   rintro k (rfl | rfl)
   ·unfold dQ bk
    rw [if_pos rfl,if_neg (by omega)]
   ·unfold dQ bk
    rw [if_neg (by omega),if_pos rfl]
    rw [List.cons_append,show k - 1 = (k - 2) + 1 by omega,List.getElem?_cons_succ,List.getElem?_append_right (by omega),show k - 2 - aN.length = 0 by omega]
    simp [aA,hat,hj]
  have hgo:∀ k,k = 0∨k = n→dG (⟨[],[]⟩ :: aN ++ [⟨[],aA ([o].map (aZ H))⟩]) k = []:=by
   rintro k (rfl | rfl)
   ·rfl
   ·unfold dG
    rw [if_neg (by omega)]
    rw [List.cons_append,show k - 1 = (k - 2) + 1 by omega,List.getElem?_cons_succ,List.getElem?_append_right (by omega),show k - 2 - aN.length = 0 by omega]
    rfl
  generalize (⟨[],[]⟩ :: aN ++ [⟨[],aA ([o].map (aZ H))⟩]:List dZ) = L at *
  have hbT:∀ k,k = 0∨k = n→dF L k = bk n t k:=fun k hk=>by unfold dF;rw [hbt k hk];rfl
  simp only [Le]
  rw [show ([0,o1].filter fun o'=>decide ([o].length≤o')) = [o1] by
   simp only [List.length_cons,List.length_nil]
   rw [List.filter_cons_of_neg (by simp),List.filter_cons_of_pos (by simp;omega),List.filter_nil]]
  have hus:(tags (aO l) ++ aA ((List.range [o].length).map (aZ out.H)) ++ aA ([o1].map (aZ out.H))) = tags (aO l) ++ dB ob1 ++ [0]:=by
   have:dB ob2 = [0]:=by unfold dB;rw [ajB,aaM];cases hq:ob2.p <;> simp [hq,jw] at hp2 <;> simp
   simp [aA,zO,aaN,this,List.range_succ]
  rw [hus]
  have hu2:∀ k ∈ tags (aO l) ++ dB ob1 ++ [0],k = 0∨k = n:=fun k hk=>by
   rcases List.mem_append.1 hk with hk | hk
   ·exact hu k hk
   ·simp at hk;exact .inl hk
  rw [if_pos (List.all_eq_true.2 fun k hk=>by rw [hbt k (hu2 k hk)];rfl)]
  rw [show (tags (aO l) ++ dB ob1 ++ ([0]:List Nat)).flatMap (dG L) = [] from List.flatMap_eq_nil_iff.2 fun k hk=>hgo k (hu2 k hk)]
  simp only [List.filter_nil,strike,List.map_cons,List.map_nil,dw,zO,aaN,Option.map_some,Option.some.injEq,Prod.mk.injEq]
  have Ec:∀ o' g',o' ∈ [o1]→cu H [o] [o1] out.H o' g' = if o' = o1∧g' = g1 then some (H.length,0) else none:=by
   intro o' g' hm
   simp only [List.mem_singleton] at hm
   subst hm
   unfold cu
   by_cases hgg:g' = g1
   ·subst hgg
    rw [ho1]
    have:¬ (o' < [o].length):=by simp;omega
    simp only [if_neg this]
    simp [idxOf]
   ·have:live out.H o' g' = none:=by
     simp only [live,h1]
     rw [if_neg (fun e=>hgg (e.symm.trans h2))]
    rw [this]
    simp [hgg]
  refine ⟨gZ _ (fun o' g' h=>Ec o' g' (by rw [← hv];exact h)) (fun k hk=>hbT k (hu k (List.mem_append_left _ hk))),?_⟩
  have hgb:fJ H [o] 0 ob1.g = g + (if ob1.g = 0 then 0 else 1):=by simp [fJ,hat,hg]
  rw [hgb]
  have e2:aU (cu H [o] [o1] out.H) (dF L) 0 ob2 = AM.fresh ob2:=by
   simp only [aU,rY hp2,AM.fresh,aaM,hbT 0 (.inl rfl)]
   unfold bk;rw [if_neg (by omega)]
  rw [e2]
  congr 3
  simp only [aU]
  rw [hbT _ ht1]
  congr 1
  refine gZ _ (fun o g h=>by rw [hi1] at h;cases h) fun k hk=>?_
  unfold dB at hu
  rw [if_pos QZ] at hu
  exact hbT k (hu k (List.mem_append_right _ hk))
end
end Go.AM
namespace Go.AM
open Classical in
noncomputable def evT (C:Ctx):Cf:=fun f xs H=>if h:∃ r,Ev1 C f xs H r then some (Classical.choose h) else none
theorem Ev1.one {C:Ctx} {f:Nat} {xs:List AV} {H:Heap} {r r2:AV × Heap} (h:Ev1 C f xs H r) (h2:Ev1 C f xs H r2):r = r2:=by
 obtain ⟨n,h⟩:=h
 obtain ⟨n2,h2⟩:=h2
 have e:=h (max n n2) (by omega)
 rw [h2 (max n n2) (by omega)] at e
 exact (Option.some.inj e).symm
theorem bn (C:Ctx):Below C (evT C):=by
 intro f xs H r h
 unfold evT at h
 split at h
 ·rename_i hx
  rw [← Option.some.inj h]
  exact Classical.choose_spec hx
 ·cases h
theorem dA {C:Ctx} {f:Nat} {xs:List AV} {H:Heap} {r:AV × Heap} (h:Ev1 C f xs H r):evT C f xs H = some r:=by
 have hx:∃ r,Ev1 C f xs H r:=⟨r,h⟩
 unfold evT
 rw [dif_pos hx]
 exact congrArg some (Ev1.one (Classical.choose_spec hx) h)
section
variable {C:Ctx} {f:Nat} {H:Heap}
theorem OZ {aN:List dZ} {v:AV} {H1:Heap} {o g:Nat} {ob:Obj} (hi:ids v = [o]) (ht:tags v = []) (hl:live H1 o g = some ob) (hob:ob.ids = false) (hp:ids ob.p = []) (hp2:tags ob.p = []) (hto:dB ob = [0]) (htg:ob.tg = 0) :
  wrap H [] aN v H1 = some (ren (fun o' g'=>if o' = o∧g' = g then some (H.length,0) else none) (fun t=>t) v,H ++ [some (fresh ob)]):=by
 obtain ⟨h1,h2⟩:=bT.1 hl
 unfold wrap
 have hat:aZ H1 o = some ob:=by simp [aZ,h1]
 have hρ:ren (cu H [] [o] H1) (dF aN) v = ren (fun o' g'=>if o' = o∧g' = g then some (H.length,0) else none) (fun t=>t) v:=by
  have key:∀ o' g',o' ∈ ids v→cu H [] [o] H1 o' g' = if o' = o∧g' = g then some (H.length,0) else none:=by
   intro o' g' hm
   rw [hi] at hm
   simp only [List.mem_singleton] at hm
   subst hm
   unfold cu
   by_cases hg:g' = g
   ·subst hg
    rw [hl]
    simp [idxOf]
   ·have:live H1 o' g' = none:=by
     simp only [live,h1]
     rw [if_neg (fun e=>hg (e.symm.trans h2))]
    rw [this]
    simp [hg]
  exact gZ v (fun o' g' hm=>key o' g' hm) (by simp [ht])
 simp only [List.length_nil,List.range_zero,List.nil_append,hi,EK h1 hob,ht,aA,List.append_nil,List.map_nil,hat,hto,List.map_cons,Nat.zero_le,decide_true,List.filter_cons_of_pos,List.filter_nil,strike,dw]
 have h0:dQ aN 0 = some 0:=rfl
 simp only [List.all_cons,List.all_nil,h0,Option.isSome_some,Bool.and_true,if_true,List.flatMap_cons,List.flatMap_nil,dG,List.append_nil,List.filter_nil,strike,Option.map_some,Option.some.injEq,Prod.mk.injEq]
 refine ⟨hρ,?_⟩
 have hr:ren (cu H [] [o] H1) (dF aN) ob.p = ob.p:=jh ob.p hp (fun t h=>by rw [hp2] at h;cases h)
 simp only [aU,hr,AM.fresh,htg]
 rfl
variable {T:Cf}
theorem Ev1.Xf (hT:Below C T) {args:List AV} {fn:Func} {c:Code} {as:List AV} {aN:List dZ} {out:Out} {l:List AV} {o g:Nat} {ob:Obj}
  (hF:C.P.funcs[f]? = some fn) (hb:fn.body = some c) (hl:aH C f H 0 args = some (as,aN)) (hi:aJ as = []) (hn:as.length + 1 < bW)
  (he:Run C T f 0 c (numbered 0 (coerce C as (aI C f))) [] out) (hex:out.ex = .normal∨out.ex = .ret) (hr:aQ C out.fr out.H fn.results.toList = some l)
  (hv:ids (aO l) = [o]) (ht:tags (aO l) = []) (ho:live out.H o g = some ob) (hob:ob.ids = false) (hp:ids ob.p = []) (hp2:tags ob.p = []) (hto:dB ob = [0]) (htg:ob.tg = 0) :
  Ev1 C f args H (ren (fun o' g'=>if o' = o∧g' = g then some (H.length,0) else none) (fun t=>t) (aO l),H ++ [some (AM.fresh ob)]):=by
 refine Ev1.of hT hF hb hl ?_ ?_ hex hr ?_
 ·rw [hi,fM]
  simp only [Bool.and_eq_true,decide_eq_true_eq]
  exact ⟨List.all_eq_true.2 fun x _=>lT x.objs,hn⟩
 ·rw [hi,fM,eu as hi (fun _ _=>rfl)]
  exact he
 ·rw [hi,fM]
  exact OZ hv ht ho hob hp hp2 hto htg
end
structure Holds (p:AV) (ob:Obj):Prop where
 p:ob.p = p
 g:ob.g = 0
 row:ob.row = true
 ids:ob.ids = false
 tg:ob.tg = 0
theorem Ev1.tried {C:Ctx} {T:Cf} (hT:Below C T) {n f:Nat} {args:List AV} {v:AV} {N:Heap} (h:xw C T n ⟨f,args,v,N⟩ = true) (H:Heap):Ev1 C f args H (dM H.length v,H ++ kG H.length N):=by
 have:=kH.cons hT kH.nil h
 obtain ⟨h1,h2⟩:=this _ (List.mem_singleton.2 rfl)
 exact Ev1.frame h1 h2 H
theorem Ev1.Xg {C:Ctx} {T:Cf} (hT:Below C T) {n f:Nat} {args:List AV} {v:AV} (h:xw C T n ⟨f,args,v,[]⟩ = true) (hv:wP v = true) (H:Heap):Ev1 C f args H (v,H):=by
 have:=Ev1.tried hT h H
 rw [show dM H.length v = v from jh v (IU hv).1 (fun _ _=>rfl)] at this
 simpa [kG] using this
theorem Ev1.each {C:Ctx} {T:Cf} (hT:Below C T) {n f N:Nat} {a v:Nat→AV} (h:(List.range N).all (fun k=>xw C T n ⟨f,[a k],v k,[]⟩) = true) (hv:∀ k,wP (v k) = true) {k:Nat} (hk:k < N) (H:Heap):Ev1 C f [a k] H (v k,H) :=
 Ev1.Xg hT (List.all_eq_true.1 h k (List.mem_range.2 hk)) (hv k) H
theorem FY (H:Heap) (x:Option Obj):(H ++ [x])[List.length H]? = some x:=by simp
theorem Bl (H:Heap) (x y:Option Obj):(H ++ [x]).set (List.length H) y = H ++ [y]:=by simp
def aj (Q:Out→Prop) (C:Ctx) (T:Cf) (f m:Nat) (c:Code) (fr:Frame) (H:Heap):Prop:=∃ o,Q o∧Run C T f m c fr H o
def Goes (P:Frame→Heap→Prop) (o:Out):Prop:=o.ex = .normal∧P o.fr o.H
def Exits (id:Nat) (P:Frame→Heap→Prop) (o:Out):Prop:=o.ex = .exit id∧P o.fr o.H
def jV (P:Frame→Heap→Prop) (o:Out):Prop:=o.ex = .ret∧P o.fr o.H
section
variable {Q:Out→Prop} {C:Ctx} {T:Cf} {f m:Nat} {fr:Frame} {H:Heap}
theorem aj.of {c:Code} {o:Out} (h:Run C T f m c fr H o) (hq:Q o):aj Q C T f m c fr H:=⟨o,hq,h⟩
theorem aj.seq {a b:Code} {fr':Frame} {H':Heap} (h:Run C T f m a fr H ⟨.normal,fr',H'⟩) (h':aj Q C T f m b fr' H'):aj Q C T f m (.seq a b) fr H:=by
 obtain ⟨o,hq,ho⟩:=h'
 exact ⟨o,hq,Run.seq h ho⟩
theorem aj.andThen {a b:Code} {P:Frame→Heap→Prop} (h:aj (Goes P) C T f m a fr H) (h':∀ fr' H',P fr' H'→aj Q C T f m b fr' H'):aj Q C T f m (.seq a b) fr H:=by
 obtain ⟨⟨ex,fr1,H1⟩,⟨he,hp⟩,ho⟩:=h
 simp only at he hp
 subst he
 exact aj.seq ho (h' _ _ hp)
theorem aj.block {id:Nat} {c:Code} {P:Frame→Heap→Prop} (h:aj (Exits id P) C T f m c fr H):aj (Goes P) C T f m (.block id c) fr H:=by
 obtain ⟨⟨ex,fr1,H1⟩,⟨he,hp⟩,ho⟩:=h
 simp only at he hp
 subst he
 exact ⟨_,⟨rfl,hp⟩,Run.eF ho⟩
theorem aj.assoc {a b c:Code} (h:aj Q C T f m (.seq a (.seq b c)) fr H):aj Q C T f m (.seq (.seq a b) c) fr H:=by
 obtain ⟨o,hq,k,hk⟩:=h
 refine ⟨o,hq,k,?_⟩
 simp only [exec] at hk ⊢
 rw [← hk]
 cases ha:exec C T f m k a fr H with
 | none=>rfl
 | some r =>
  obtain ⟨ex,fr',H'⟩:=r
  cases ex with
  | normal=>rfl
  | exit id=>rfl
  | ret=>rfl
theorem aj.EL {id:Nat} {c b:Code} {P:Frame→Heap→Prop} (h:aj (fun o=>Exits id P o∨(o.ex = .ret∧Q o)) C T f m c fr H) (h':∀ fr' H',P fr' H'→aj Q C T f m b fr' H'):aj Q C T f m (.seq (.block id c) b) fr H:=by
 obtain ⟨⟨ex,fr1,H1⟩,hq,ho⟩:=h
 rcases hq with ⟨he,hp⟩ | ⟨he,hq⟩
 ·simp only at he hp
  subst he
  exact aj.seq (Run.eF ho) (h' _ _ hp)
 ·simp only at he
  subst he
  exact ⟨_,hq,Run.bH (Run.block ho (by simp)) (by simp)⟩
theorem aj.loop {c:Code} {σ:Type} (I:σ→Prop) (fr:σ→Frame) (H:σ→Heap) (μ:σ→Nat)
  (step:∀ s,I s→(∃ s',I s'∧Run C T f m c (fr s) (H s) ⟨.normal,fr s',H s'⟩∧μ s' < μ s)∨(∃ o,Q o∧o.ex ≠ .normal∧Run C T f m c (fr s) (H s) o)) (s:σ) (hs:I s) :
  aj Q C T f m (.loop c) (fr s) (H s):=by
 generalize hn:μ s = n
 induction n using Nat.strongRecOn generalizing s with
 | _ n ih =>
  rcases step s hs with ⟨s',h0,h1,h3⟩ | ⟨o,hq,h1,h2⟩
  ·obtain ⟨o,hq,ho⟩:=ih (μ s') (by omega) s' h0 rfl
   exact ⟨o,hq,Run.zL h1 ho⟩
  ·exact ⟨o,hq,Run.Cm h2 h1⟩
end
end Go.AM
namespace Go.AM
def PB (p:AV) (l:List UInt8):Prop:=p = .pb l∨(p = .pn∧l = [])
structure Rw (p:AV) (g:Nat) (ob:Obj):Prop where
 p:ob.p = p
 g:ob.g = g
 row:ob.row = true
 ids:ob.ids = false
 tg:ob.tg = 0
def Byt (H:Heap) (a:AV) (l:List UInt8):Prop :=
 ∃ c p,PB p l∧(c = 0→l = [])∧∀ t,∃ x,eU H t a = some (.ro c p t,x)
theorem PB.ah {p:AV} {l:List UInt8} (h:PB p l):ah p = l.length:=by
 rcases h with rfl | ⟨rfl,rfl⟩ <;> rfl
theorem PB.ids {p:AV} {l:List UInt8} (h:PB p l):ids p = []:=by
 rcases h with rfl | ⟨rfl,rfl⟩ <;> rfl
theorem Byt.ro {H:Heap} {c t:Nat} {p:AV} {l:List UInt8} (h:PB p l) (hc:c = 0→l = []):Byt H (.ro c p t) l :=
 ⟨c,p,h,hc,fun _=>⟨⟨[],[t]⟩,rfl⟩⟩
theorem Byt.nil {H:Heap}:Byt H (.ro 0 .pn 0) []:=Byt.ro (.inr ⟨rfl,rfl⟩) (fun _=>rfl)
theorem Byt.sl {H:Heap} {o off len g:Nat} {ob:Obj} {m l:List UInt8} (ho:H[o]? = some (some ob)) (h:Rw (.pb m) g ob) (hl:(m.drop off).take len = l) (hle:off + len≤m.length):Byt H (.sl o off len g) l:=by
 have hlive:live H o g = some ob:=by simp [live,ho,h.g]
 refine ⟨if ob.z = 0∧AM.ah ob.p = 0 then 0 else 2,.pb l,.inl rfl,fun h0=>?_,fun t=>⟨⟨[o],[ob.tg]⟩,?_⟩⟩
 ·split at h0
  ·rename_i hz
   have hm:m.length = 0:=by have:=hz.2;rw [h.p] at this;exact this
   have:m = []:=List.eq_nil_of_length_eq_zero hm
   subst this
   rw [← hl];simp
  ·cases h0
 ·simp only [eU,dY,hlive,h.ids,h.p,iw]
  rw [if_pos hle,hl]
  rfl
theorem Byt.whole {H:Heap} {o g:Nat} {ob:Obj} {l:List UInt8} (ho:H[o]? = some (some ob)) (h:Rw (.pb l) g ob):Byt H (.sl o 0 l.length g) l :=
 Byt.sl ho h (by simp) (by omega)
section
variable {C:Ctx} {f:Nat} {H:Heap}
theorem oZ {i:Nat} {a:AV} {l:List UInt8} {r as:List AV} {xs:List dZ} (hrw:C.rw f i = false) (h:Byt H a l) (hr:aH C f H (i + 1) r = some (as,xs)) :
  ∃ c p x,PB p l∧(c = 0→l = [])∧aH C f H i (a :: r) = some (.ro c p (i + 1) :: as,x :: xs):=by
 obtain ⟨c,p,hp,hc,hl⟩:=h
 obtain ⟨x,hx⟩:=hl (i + 1)
 exact ⟨c,p,x,hp,hc,by simp only [aH,hrw,hx,hr]⟩
theorem mY {T e:Nat} (hT:und C T = .slice e) (he:und C e = .int .u8) (hs:sizeT C e = 1) (hb:bf C e = 1) (hz:bC C e = true) {o g:Nat} {ob:Obj} {l m:List UInt8} {src:AV}
  (ho:H[o]? = some (some ob)) (h:Rw (.pb l) g ob) (hsrc:gU H src = some (.pb m,0)∨(gU H src = some (.pn,0)∧m = [])) (hn:l.length + m.length≤100000000) :
  ∃ ob',Rw (.pb (l ++ m)) (g + 1) ob'∧bD C H T (.sl o 0 l.length g) src = some (.sl o 0 (l.length + m.length) (g + 1),upd H o (some ob')):=by
 have hlive:live H o g = some ob:=by simp [live,ho,h.g]
 have hroom:fK C e (l.length + m.length) = true:=by simp [fK,hb];omega
 obtain ⟨p,hp1,hp2⟩:∃ p,gU H src = some (p,0)∧PB p m:=by
  rcases hsrc with h1 | ⟨h1,h2⟩
  ·exact ⟨_,h1,.inl rfl⟩
  ·exact ⟨_,h1,.inr ⟨rfl,h2⟩⟩
 have hpl:=hp2.ah
 have hpa:og (.pb l) p = some (.pb (l ++ m)):=by
  rcases hp2 with rfl | ⟨rfl,rfl⟩
  ·rfl
  ·simp [og]
 refine ⟨{ ob with p:=.pb (l ++ m),g:=g + 1,cap:=(match ob.cap with | some c=>if 0 + l.length + AM.ah p≤c then some (c - 0) else none | none=>none),z:=(if AM.ah ob.p = 0 then ob.z else 1),tg:=0 },⟨rfl,rfl,h.row,h.ids,rfl⟩,?_⟩
 unfold bD
 simp only [hT,hs,hz,hp1,hlive,h.row,h.ids,h.p,h.tg]
 simp only [show ¬ ((1:Nat) = 0∨true = false) by simp,if_false]
 have hc:True∧True∧0 + l.length = AM.ah (.pb l)∧aK (.pb l) = 1∧fK C e (l.length + AM.ah p) = true:=⟨trivial,trivial,by simp [AM.ah],rfl,by rw [hpl];exact hroom⟩
 rw [if_pos hc]
 simp only [iw,Nat.zero_add,Nat.le_refl,if_true,List.drop_zero,List.take_length,hpa,fA,aK]
 simp [hpl]
 rfl
end
section
variable {C:Ctx} {f:Nat} {H:Heap} {T:Cf}
theorem lq {l:List AV} (h:fU l = true):ids (aO l) = aJ l:=by
 unfold aO
 split
 ·simp [aJ]
 ·rw [if_pos h];rfl
theorem jS {l:List AV} (h:fU l = true):tags (aO l) = bQ l:=by
 unfold aO
 split
 ·simp [bQ]
 ·rw [if_pos h];rfl
theorem sD {ρ:Nat→Nat→Option (Nat × Nat)} {τ:Nat→Nat} {v w:AV} {rest:List AV} (hv:ren ρ τ v = w) (hr:bZ ρ τ rest = rest) (h:fU (v :: rest) = true) (h2:fU (w :: rest) = true):ren ρ τ (aO (v :: rest)) = aO (w :: rest):=by
 cases rest with
 | nil=>exact hv
 | cons a r =>
  show ren ρ τ (if fU (v :: a :: r) then .tup (v :: a :: r) else .top) = (if fU (w :: a :: r) then .tup (w :: a :: r) else .top)
  rw [if_pos h,if_pos h2]
  show AV.tup (ren ρ τ v :: bZ ρ τ (a :: r)) = _
  rw [hv,hr]
theorem Ev1.wZ (hT:Below C T) {args xs:List AV} {aN:List dZ} {fn:Func} {c:Code} {n:Nat} {l:List UInt8} {rest:List AV}
  (hF:C.P.funcs[f]? = some fn) (hb:fn.body = some c) (hl:aH C f H 0 args = some (xs,aN)) (hi:aJ xs = []) (hn:xs.length + 1 < bW) (hri:aJ rest = []) (hrt:bQ rest = []) (hnt:fU rest = true)
  (h:aj (jV fun fr H1=>∃ o g ob,aQ C fr H1 fn.results.toList = some (.sl o 0 n g :: rest)∧H1[o]? = some (some ob)∧Rw (.pb l) g ob) C T f 0 c (numbered 0 (coerce C xs (aI C f))) []) :
  ∃ ob',Rw (.pb l) 0 ob'∧Ev1 C f args H (aO (.sl H.length 0 n 0 :: rest),H ++ [some ob']):=by
 obtain ⟨⟨ex,fr,H1⟩,⟨he,o,g,ob,hr,ho,hw⟩,hrun⟩:=h
 simp only at he hr ho
 subst he
 refine ⟨AM.fresh ob,⟨hw.p,rfl,hw.row,hw.ids,rfl⟩,?_⟩
 have:=Ev1.fresh (H:=H) hT hF hb hl hi hn hrun (.inr rfl) hr (o:=o) (g:=g) (ob:=ob) (by rw [lq (l:=.sl o 0 n g :: rest) hnt];simp [aJ,ids,hri]) (by rw [jS (l:=.sl o 0 n g :: rest) hnt];simp [bQ,tags,hrt]) (by simp [live,ho,hw.g]) hw.ids (by rw [hw.p];rfl) hw.tg
 rw [sD (w:=.sl H.length 0 n 0) (by simp [ren]) (eu rest hri (fun t ht=>rfl)) (by exact hnt) (by exact hnt)] at this
 exact this
theorem Ev1.nV (hT:Below C T) {args xs:List AV} {aN:List dZ} {fn:Func} {c:Code} {l:List AV}
  (hF:C.P.funcs[f]? = some fn) (hb:fn.body = some c) (hl:aH C f H 0 args = some (xs,aN)) (hi:aJ xs = []) (hn:xs.length + 1 < bW) (hri:aJ l = []) (hrt:bQ l = []) (hnt:fU l = true)
  (h:aj (jV fun fr H1=>aQ C fr H1 fn.results.toList = some l) C T f 0 c (numbered 0 (coerce C xs (aI C f))) []):Ev1 C f args H (aO l,H):=by
 obtain ⟨⟨ex,fr,H1⟩,⟨he,hr⟩,hrun⟩:=h
 simp only at he hr
 subst he
 exact Ev1.plain hT hF hb hl hi hn hrun (.inr rfl) hr (by rw [lq hnt];exact hri) (by rw [jS hnt];exact hrt)
end
section
variable {C:Ctx} {T:Cf} {f m:Nat} {fr fr' fr2:Frame} {H H':Heap} {ms:List Mark}
theorem Run.dy {id:Nat} {ops:Array Oper} {l:List Nat} (hdy:C.dy f id = true) (hk:C.keep f id = some l) (hn:C.norm f id = false)
  (h:lJ C T (fF C f) ops ops.toList fr H = some (fr',H',ms)) (hm:vP (Region.before ops) ms = true) (hf:bY l fr' = fr2):Run C T f m (.region id ops true) fr H ⟨.normal,fr2,H'⟩:=by
 refine ⟨0,?_⟩
 simp only [exec,hdy,Bool.true_and,Bool.true_or,if_true,h,hm,iQ,hk,hn,hf]
 rfl
end
section
variable {C:Ctx} {f:Nat} {H:Heap} {T:Cf}
end
end Go.AM
namespace Go.AM
open Go.ChangeShapes Go.WideShapes Go.ChangeAt Go.RowKit
section
variable {H:Type} {enc:TypeId × Value→H} {P:Program} {W:World}
theorem Lh {base:Nat} {t e:TypeId} {v:Value} {d:DataW H} {ps:List MemPlace} (ht:P.underlying t = some (.slice e)) (he:P.underlying e = some (.int .u8)) (hc:P.cellsOf e = 1)
  (hval:Value.okWide P W .any base t v) (hd:DataW.Trod enc P W 0 (fun _=>true) true t v d ps) :
  ∃ (c:Nat) (l:List UInt8),(c = 0→l = [])∧l.length≤maxLen∧ay (start W) (T0 W.heap.size) (.ro c (.pb l) 1) v:=by
 obtain ⟨a0,len0,cap0,rfl⟩:=okWide_slice ht hval
 obtain ⟨fuel,hf⟩:=hd
 rcases Go.ChangeShapes.open_ints ht he hc hf with ⟨hcs,_⟩ | ⟨a,len,cap,zs,hcs,_,hlc,hcm,hzl,_,hcell,hwf⟩
 ·simp [Value.cells] at hcs
  obtain ⟨rfl,rfl,rfl⟩:=hcs
  exact ⟨0,[],fun _=>rfl,by simp,QY (l:=[]) ⟨Nat.le_refl _,fun _=>⟨rfl,rfl⟩,fun h=>absurd rfl h,fun h=>by simp at h⟩ (fun a ha=>by cases ha)⟩
 ·simp [Value.cells] at hcs
  obtain ⟨rfl,rfl,rfl⟩:=hcs
  simp only [if_true] at hzl
  have hlen:((zs.take len0).map fun n=>UInt8.ofNat n.toNat).length = len0:=by simp;omega
  refine ⟨2,((zs.take len0).map fun n=>UInt8.ofNat n.toNat),(fun h=>by cases h),by rw [hlen];omega,?_⟩
  have:=QY (W:=W) (c:=2) (l:=(zs.take len0).map fun n=>UInt8.ofNat n.toNat) (ad:=some a) (cap:=cap0) ⟨by rw [hlen];exact hlc,fun h=>by simp at h,fun _=>rfl,fun h=>by simp at h⟩ (by
   intro a' ha' hn
   simp only [Option.some.injEq] at ha'
   subst ha'
   rw [hlen] at hn
   have h0:=hcell 0 (by omega)
   have hsp:a.spot = none:=by
    have:=World.cell?_spot h0
    simpa [Addr.add] using this
   obtain ⟨b,off,spot⟩:=a
   simp only at hsp
   subst hsp
   refine ⟨rfl,?_,fun j x hx=>?_⟩
   ·rw [add_plain] at h0
    exact block_lt_of_cell h0
   ·rw [List.getElem?_map] at hx
    cases hz:(zs.take len0)[j]? with
    | none=>rw [hz] at hx;cases hx
    | some z =>
     rw [hz] at hx
     simp only [Option.map_some,Option.some.injEq] at hx
     have hjl:j < len0:=by
      have:=(List.getElem?_eq_some_iff.1 hz).1
      simp at this
      omega
     rw [List.getElem?_take_of_lt hjl] at hz
     have aaO:=List.mem_of_getElem? hz
     obtain ⟨q1,q2⟩:=aaL (hwf z aaO)
     have:=hcell j (by omega)
     rw [add_plain] at this
     rw [this,List.getD_eq_getElem?_getD,hz,Option.getD_some,← hx]
     have:((UInt8.ofNat z.toNat).toNat:Int) = z:=by
      rw [UInt8.toNat_ofNat',Nat.mod_eq_of_lt (by simp;omega)]
      omega
     rw [this])
  rw [hlen] at this
  exact this
theorem nat_wf {k:IntKind} (hk:k.signed = false) {n:Int} (h:(Lit.int k n).wf = true):∃ m:Nat,n = (m:Int)∧m < 2 ^ k.bits:=by
 have h1:k.min≤n∧n≤k.max:=by simpa [Lit.wf] using h
 cases k <;> simp [IntKind.signed] at hk <;> simp only [IntKind.min,IntKind.max,IntKind.signed,IntKind.bits] at h1 ⊢ <;> exact ⟨n.toNat,by simp at h1;omega,by simp at h1;omega⟩
end
end Go.AM
namespace Go.AM
section
variable {C:Ctx} {f:Nat} {H:Heap} {T:Cf}
theorem Ar {o off len g i:Nat} {xs ys:List AV} {aN:List dZ} (hrw:C.rw f i = true) (hl:aH C f H (i + 1) xs = some (ys,aN)):aH C f H i (.sl o off len g :: xs) = some (.sl o off len g :: ys,⟨[],[]⟩ :: aN):=by
 simp only [aH,hrw,hl]
theorem Ev1.rw1 (hT:Below C T) {o off len g:Nat} {ob:Obj} {xs ys:List AV} {aN:List dZ} {fn:Func} {c:Code} {out:Out} {l:List AV} {rest:Heap} {n:Nat}
  (hF:C.P.funcs[f]? = some fn) (hb:fn.body = some c) (hrw:C.rw f 0 = true) (ho:H[o]? = some (some ob)) (hg:ob.g = g) (hid:ob.ids = false) (hp:jw ob.p = true) (htg:ob.tg = 0)
  (hl:aH C f H 1 xs = some (ys,aN)) (hiy:aJ ys = []) (hob:aN.all (fun x=>disjoint x.objs [o]) = true) (hn:ys.length + 2 = n) (hng:n < bW)
  (he:Run C T f 1 c (numbered 0 (coerce C (.sl 0 off len 0 :: ys) (aI C f))) [some { ob with g:=0,tg:=n }] out)
  (hex:out.ex = .normal∨out.ex = .ret) (hr:aQ C out.fr out.H fn.results.toList = some l)
  (hH:out.H = some { ob with g:=0,tg:=n } :: rest) (hv:ids (aO l) = []) (htv:tags (aO l) = []) :
  Ev1 C f (.sl o off len g :: xs) H (aO l,H):=by
 have hi:ids ob.p = []:=su hp
 have OW:∀ (ρ:Nat→Nat→Option (Nat × Nat)) (τ:Nat→Nat),ren ρ τ ob.p = ob.p:=by
  intro ρ τ
  cases hpp:ob.p <;> rw [hpp] at hp <;> simp [jw] at hp <;> rfl
 have hlive:live H o g = some ob:=by simp [live,ho,hg]
 have hat:aZ H o = some ob:=by simp [aZ,ho]
 have hl':=Ar (o:=o) (off:=off) (len:=len) (g:=g) hrw hl
 have hre:reach H aG (aJ (.sl o off len g :: ys)) [] = [o]:=by
  rw [show aJ (.sl o off len g :: ys) = [o] by simp [aJ,ids,hiy]]
  exact lF ho hi
 have hin:dh H [o] o g = some (0,0):=by simp [dh,hlive,idxOf]
 have hlen:=jY hl
 have hn0:0 < n:=by omega
 have hto:dB ob = [0]:=by
  unfold dB
  rw [hid,htg]
  cases hpp:ob.p <;> rw [hpp] at hp <;> simp [jw] at hp <;> rfl
 have Xh:dB { ob with g:=0,tg:=n } = [n]:=by
  unfold dB
  simp only [hid]
  cases hpp:ob.p <;> rw [hpp] at hp <;> simp [jw] at hp <;> rfl
 refine Ev1.of (out:=out) (l:=l) hT hF hb hl' ?_ ?_ hex hr ?_
 ·rw [hre]
  simp only [List.all_cons,Bool.and_eq_true,decide_eq_true_eq,List.length_cons]
  exact ⟨⟨rfl,hob⟩,by omega⟩
 ·rw [hre]
  have e1:bZ (dh H [o]) (fun t=>t) (.sl o off len g :: ys) = .sl 0 off len 0 :: ys:=by
   simp only [bZ,ren,hin]
   rw [eu ys hiy (fun _ _=>rfl)]
  have e2:([o].map fun o'=>(aZ H o').map (aU (dh H [o]) (fun _=>(AV.sl o off len g :: ys).length + 1) 0)) = [some { ob with g:=0,tg:=n }]:=by
   simp only [List.map_cons,List.map_nil,hat,Option.map_some,aU,List.length_cons]
   rw [show ys.length + 1 + 1 = n by omega,OW]
  rw [e1,e2]
  exact he
 ·rw [hre]
  unfold wrap
  have h0:out.H[0]? = some (some { ob with g:=0,tg:=n }):=by rw [hH];rfl
  have zO:aZ out.H 0 = some { ob with g:=0,tg:=n }:=by simp [aZ,h0]
  have Le:reach out.H aG (List.range [o].length ++ ids (aO l)) [] = [0]:=by
   rw [hv]
   exact lF h0 hi
  have hbt:dQ (⟨[],[]⟩ :: aN ++ [⟨[],aA ([o].map (aZ H))⟩]) n = some 0:=by
   unfold dQ
   rw [if_neg (by omega)]
   rw [List.cons_append,show n - 1 = (n - 2) + 1 by omega,List.getElem?_cons_succ,List.getElem?_append_right (by omega),show n - 2 - aN.length = 0 by omega]
   simp [aA,hat,hto,dU,fA]
  have hgo:dG (⟨[],[]⟩ :: aN ++ [⟨[],aA ([o].map (aZ H))⟩]) n = []:=by
   unfold dG
   rw [if_neg (by omega)]
   rw [List.cons_append,show n - 1 = (n - 2) + 1 by omega,List.getElem?_cons_succ,List.getElem?_append_right (by omega),show n - 2 - aN.length = 0 by omega]
   rfl
  generalize (⟨[],[]⟩ :: aN ++ [⟨[],aA ([o].map (aZ H))⟩]:List dZ) = L at *
  have hbT:dF L n = 0:=by unfold dF;rw [hbt];rfl
  simp only [Le]
  rw [show ([0].filter fun o'=>decide ([o].length≤o')) = [] from rfl]
  have hus:(tags (aO l) ++ aA ((List.range [o].length).map (aZ out.H)) ++ aA (([]:List Nat).map (aZ out.H))) = [n]:=by
   simp [aA,zO,List.range_succ,htv,Xh]
  rw [hus]
  rw [if_pos (by simp [hbt])]
  rw [show [n].flatMap (dG L) = [] by simp [hgo]]
  simp only [List.filter_nil,strike,List.map_nil,List.append_nil,dw,zO,Option.map_some,Option.some.injEq,Prod.mk.injEq]
  have hgb:fJ H [o] 0 0 = g:=by simp [fJ,hat,hg]
  refine ⟨jh _ hv (fun k hk=>by rw [htv] at hk;cases hk),?_⟩
  rw [hgb]
  simp only [aU,OW,hbT]
  rw [show ({ p:=ob.p,g:=g,cap:=ob.cap,z:=ob.z,row:=ob.row,ids:=ob.ids,tg:=0 }:Obj) = ob by cases ob;simp only at hg htg;subst hg htg;rfl]
  unfold upd
  obtain ⟨h1,h2⟩:=List.getElem?_eq_some_iff.1 ho
  exact List.ext_getElem? fun i=>by
   by_cases h:i = o
   ·subst h;rw [List.getElem?_set_self h1,ho]
   ·rw [List.getElem?_set_ne (fun e=>h e.symm)]
theorem Byt.part {o off len g:Nat} {ob:Obj} {m l:List UInt8} (ho:H[o]? = some (some ob)) (hg:ob.g = g) (hp:ob.p = .pb m) (hi:ob.ids = false) (hl:(m.drop off).take len = l) (hle:off + len≤m.length):Byt H (.sl o off len g) l:=by
 have hlive:live H o g = some ob:=by simp [live,ho,hg]
 refine ⟨if ob.z = 0∧AM.ah ob.p = 0 then 0 else 2,.pb l,.inl rfl,fun h0=>?_,fun t=>⟨⟨[o],[ob.tg]⟩,?_⟩⟩
 ·split at h0
  ·rename_i hz
   have hm:m.length = 0:=by have:=hz.2;rw [hp] at this;exact this
   have:m = []:=List.eq_nil_of_length_eq_zero hm
   subst this
   rw [← hl];simp
  ·cases h0
 ·simp only [eU,dY,hlive,hi,hp,iw]
  rw [if_pos hle,hl]
  rfl
theorem NM {T e:Nat} (hT:und C T = .slice e) (he:und C e = .int .u8) (hs:sizeT C e = 1) (hb:bf C e = 1) (hz:bC C e = true) {o g k:Nat} {ob:Obj} {l m:List UInt8} {src:AV}
  (ho:H[o]? = some (some ob)) (h:Rw (.pb l) g ob) (hk:ob.cap = some k) (hkl:l.length + m.length≤k) (hsrc:gU H src = some (.pb m,0)∨(gU H src = some (.pn,0)∧m = [])) (hn:l.length + m.length≤100000000) :
  ∃ ob',Rw (.pb (l ++ m)) (g + 1) ob'∧ob'.cap = some k∧bD C H T (.sl o 0 l.length g) src = some (.sl o 0 (l.length + m.length) (g + 1),upd H o (some ob')):=by
 have hlive:live H o g = some ob:=by simp [live,ho,h.g]
 have hroom:fK C e (l.length + m.length) = true:=by simp [fK,hb];omega
 obtain ⟨p,hp1,hp2⟩:∃ p,gU H src = some (p,0)∧PB p m:=by
  rcases hsrc with h1 | ⟨h1,h2⟩
  ·exact ⟨_,h1,.inl rfl⟩
  ·exact ⟨_,h1,.inr ⟨rfl,h2⟩⟩
 have hpl:=hp2.ah
 have hpa:og (.pb l) p = some (.pb (l ++ m)):=by
  rcases hp2 with rfl | ⟨rfl,rfl⟩
  ·rfl
  ·simp [og]
 refine ⟨{ ob with p:=.pb (l ++ m),g:=g + 1,cap:=(match ob.cap with | some c=>if 0 + l.length + AM.ah p≤c then some (c - 0) else none | none=>none),z:=(if AM.ah ob.p = 0 then ob.z else 1),tg:=0 },⟨rfl,rfl,h.row,h.ids,rfl⟩,?_,?_⟩
 ·simp only [hk]
  rw [if_pos (by omega)]
  rfl
 unfold bD
 simp only [hT,hs,hz,hp1,hlive,h.row,h.ids,h.p,h.tg]
 simp only [show ¬ ((1:Nat) = 0∨true = false) by simp,if_false]
 have hc:True∧True∧0 + l.length = AM.ah (.pb l)∧aK (.pb l) = 1∧fK C e (l.length + AM.ah p) = true:=⟨trivial,trivial,by simp [AM.ah],rfl,by rw [hpl];exact hroom⟩
 rw [if_pos hc]
 simp only [iw,Nat.zero_add,Nat.le_refl,if_true,List.drop_zero,List.take_length,hpa,fA,aK]
 simp [hpl]
 rfl
theorem Ev1.aaP (hT:Below C T) {args xs:List AV} {aN:List dZ} {fn:Func} {c:Code} {n:Nat} {k:Option Nat} {l:List UInt8} {rest:List AV}
  (hF:C.P.funcs[f]? = some fn) (hb:fn.body = some c) (hl:aH C f H 0 args = some (xs,aN)) (hi:aJ xs = []) (hn:xs.length + 1 < bW) (hri:aJ rest = []) (hrt:bQ rest = []) (hnt:fU rest = true)
  (h:aj (jV fun fr H1=>∃ o g ob,aQ C fr H1 fn.results.toList = some (.sl o 0 n g :: rest)∧H1[o]? = some (some ob)∧Rw (.pb l) g ob∧ob.cap = k) C T f 0 c (numbered 0 (coerce C xs (aI C f))) []) :
  ∃ ob',Rw (.pb l) 0 ob'∧ob'.cap = k∧Ev1 C f args H (aO (.sl H.length 0 n 0 :: rest),H ++ [some ob']):=by
 obtain ⟨⟨ex,fr,H1⟩,⟨he,o,g,ob,hr,ho,hw,hk⟩,hrun⟩:=h
 simp only at he hr ho
 subst he
 refine ⟨AM.fresh ob,⟨hw.p,rfl,hw.row,hw.ids,rfl⟩,hk,?_⟩
 have:=Ev1.fresh (H:=H) hT hF hb hl hi hn hrun (.inr rfl) hr (o:=o) (g:=g) (ob:=ob) (by rw [lq (l:=.sl o 0 n g :: rest) hnt];simp [aJ,ids,hri]) (by rw [jS (l:=.sl o 0 n g :: rest) hnt];simp [bQ,tags,hrt]) (by simp [live,ho,hw.g]) hw.ids (by rw [hw.p];rfl) hw.tg
 rw [sD (w:=.sl H.length 0 n 0) (by simp [ren]) (eu rest hri (fun t ht=>rfl)) (by exact hnt) (by exact hnt)] at this
 exact this
end
end Go.AM
namespace Go.AM
section
variable {C:Ctx} {f:Nat} {H:Heap} {T:Cf}
theorem O1 {H:Heap} {o:Nat} {ob:Obj} (ho:H[o]? = some (some ob)) (hi:ids ob.p = []):reach H aG [o,o] [] = [o]:=by
 unfold aG
 simp [reach,ho,hi]
theorem Ev1.rwB (hT:Below C T) {o off len g:Nat} {ob ob1:Obj} {xs ys:List AV} {aN:List dZ} {fn:Func} {c:Code} {out:Out} {rest:List AV} {VH:Heap} {n off1 n1 g1:Nat}
  (hF:C.P.funcs[f]? = some fn) (hb:fn.body = some c) (hrw:C.rw f 0 = true) (ho:H[o]? = some (some ob)) (hg:ob.g = g) (hid:ob.ids = false) (hp:jw ob.p = true)
  (hl:aH C f H 1 xs = some (ys,aN)) (hiy:aJ ys = []) (hob:aN.all (fun x=>disjoint x.objs [o]) = true) (hn:ys.length + 2 = n) (hng:n < bW)
  (he:Run C T f 1 c (numbered 0 (coerce C (.sl 0 off len 0 :: ys) (aI C f))) [some { ob with g:=0,tg:=n }] out)
  (hex:out.ex = .normal∨out.ex = .ret) (hr:aQ C out.fr out.H fn.results.toList = some (.sl 0 off1 n1 g1 :: rest))
  (hH:out.H = some ob1 :: VH) (hg1:ob1.g = g1) (QZ:ob1.ids = false) (hp1:jw ob1.p = true) (Xi:ob1.tg = 0∨ob1.tg = n) (hri:aJ rest = []) (hrt:bQ rest = []) (hnt:fU rest = true) :
  Ev1 C f (.sl o off len g :: xs) H (aO (.sl o off1 n1 (g + (if g1 = 0 then 0 else 1)) :: rest),upd H o (some { ob1 with g:=g + (if g1 = 0 then 0 else 1),tg:=bk n ob.tg ob1.tg })):=by
 have hi:ids ob.p = []:=su hp
 have hi1:ids ob1.p = []:=su hp1
 have OW:∀ (ρ:Nat→Nat→Option (Nat × Nat)) (τ:Nat→Nat),ren ρ τ ob.p = ob.p:=fun ρ τ=>rY hp
 have aaQ:∀ (ρ:Nat→Nat→Option (Nat × Nat)) (τ:Nat→Nat),ren ρ τ ob1.p = ob1.p:=fun ρ τ=>rY hp1
 have hlive:live H o g = some ob:=by simp [live,ho,hg]
 have hat:aZ H o = some ob:=by simp [aZ,ho]
 have hl':=Ar (o:=o) (off:=off) (len:=len) (g:=g) hrw hl
 have hre:reach H aG (aJ (.sl o off len g :: ys)) [] = [o]:=by
  rw [show aJ (.sl o off len g :: ys) = [o] by simp [aJ,ids,hiy]]
  exact lF ho hi
 have hin:dh H [o] o g = some (0,0):=by simp [dh,hlive,idxOf]
 have hlen:=jY hl
 have hn0:0 < n:=by omega
 have hto:dB ob = [ob.tg]:=by
  unfold dB
  rw [hid]
  cases hpp:ob.p <;> rw [hpp] at hp <;> simp [jw] at hp <;> rfl
 have Xh:dB ob1 = [ob1.tg]:=by
  unfold dB
  rw [QZ]
  cases hpp:ob1.p <;> rw [hpp] at hp1 <;> simp [jw] at hp1 <;> rfl
 have lu:ids (aO (.sl 0 off1 n1 g1 :: rest)) = [0]:=by rw [lq (l:=.sl 0 off1 n1 g1 :: rest) hnt];simp [aJ,ids,hri]
 have QW:tags (aO (.sl 0 off1 n1 g1 :: rest)) = []:=by rw [jS (l:=.sl 0 off1 n1 g1 :: rest) hnt];simp [bQ,tags,hrt]
 refine Ev1.of (out:=out) (l:=.sl 0 off1 n1 g1 :: rest) hT hF hb hl' ?_ ?_ hex hr ?_
 ·rw [hre]
  simp only [List.all_cons,Bool.and_eq_true,decide_eq_true_eq,List.length_cons]
  exact ⟨⟨rfl,hob⟩,by omega⟩
 ·rw [hre]
  have e1:bZ (dh H [o]) (fun t=>t) (.sl o off len g :: ys) = .sl 0 off len 0 :: ys:=by
   simp only [bZ,ren,hin]
   rw [eu ys hiy (fun _ _=>rfl)]
  have e2:([o].map fun o'=>(aZ H o').map (aU (dh H [o]) (fun _=>(AV.sl o off len g :: ys).length + 1) 0)) = [some { ob with g:=0,tg:=n }]:=by
   simp only [List.map_cons,List.map_nil,hat,Option.map_some,aU,List.length_cons]
   rw [show ys.length + 1 + 1 = n by omega,OW]
  rw [e1,e2]
  exact he
 ·rw [hre]
  unfold wrap
  have h0:out.H[0]? = some (some ob1):=by rw [hH];rfl
  have zO:aZ out.H 0 = some ob1:=by simp [aZ,h0]
  have Xj:live out.H 0 g1 = some ob1:=by simp [live,h0,hg1]
  have Le:reach out.H aG (List.range [o].length ++ ids (aO (.sl 0 off1 n1 g1 :: rest))) [] = [0]:=by
   rw [lu]
   exact O1 h0 hi1
  have hbt:∀ k,k = 0∨k = n→dQ (⟨[],[]⟩ :: aN ++ [⟨[],aA ([o].map (aZ H))⟩]) k = some (bk n ob.tg k):=by
   rintro k (rfl | rfl)
   ·unfold dQ bk
    rw [if_pos rfl,if_neg (by omega)]
   ·unfold dQ bk
    rw [if_neg (by omega),if_pos rfl]
    rw [List.cons_append,show k - 1 = (k - 2) + 1 by omega,List.getElem?_cons_succ,List.getElem?_append_right (by omega),show k - 2 - aN.length = 0 by omega]
    simp [aA,hat,hto,dU,fA]
    omega
  have hgo:∀ k,k = 0∨k = n→dG (⟨[],[]⟩ :: aN ++ [⟨[],aA ([o].map (aZ H))⟩]) k = []:=by
   rintro k (rfl | rfl)
   ·rfl
   ·unfold dG
    rw [if_neg (by omega)]
    rw [List.cons_append,show k - 1 = (k - 2) + 1 by omega,List.getElem?_cons_succ,List.getElem?_append_right (by omega),show k - 2 - aN.length = 0 by omega]
    rfl
  generalize (⟨[],[]⟩ :: aN ++ [⟨[],aA ([o].map (aZ H))⟩]:List dZ) = L at *
  have hbT:dF L ob1.tg = bk n ob.tg ob1.tg:=by unfold dF;rw [hbt _ Xi];rfl
  simp only [Le]
  rw [show ([0].filter fun o'=>decide ([o].length≤o')) = [] from rfl]
  have hus:(tags (aO (.sl 0 off1 n1 g1 :: rest)) ++ aA ((List.range [o].length).map (aZ out.H)) ++ aA (([]:List Nat).map (aZ out.H))) = [ob1.tg]:=by
   simp [aA,zO,List.range_succ,QW,Xh]
  rw [hus]
  rw [if_pos (by simp [hbt _ Xi])]
  rw [show [ob1.tg].flatMap (dG L) = [] by simp [hgo _ Xi]]
  simp only [List.filter_nil,strike,List.map_nil,List.append_nil,dw,zO,Option.map_some,Option.some.injEq,Prod.mk.injEq]
  have hgb:fJ H [o] 0 g1 = g + (if g1 = 0 then 0 else 1):=by simp [fJ,hat,hg]
  have hbn:cu H [o] [] out.H 0 g1 = some (o,g + (if g1 = 0 then 0 else 1)):=by
   unfold cu
   rw [Xj]
   simp [hgb]
  refine ⟨?_,?_⟩
  ·refine sD (w:=.sl o off1 n1 (g + (if g1 = 0 then 0 else 1))) ?_ ?_ hnt hnt
   ·simp only [ren,hbn]
   ·exact eu rest hri (fun t ht=>by rw [hrt] at ht;cases ht)
  ·rw [hg1,hgb]
   simp only [aU,aaQ,hbT]
structure RwT (p:AV) (g t:Nat) (ob:Obj):Prop where
 p:ob.p = p
 g:ob.g = g
 row:ob.row = true
 ids:ob.ids = false
 tg:ob.tg = t
theorem BA {T e:Nat} (hT:und C T = .slice e) (he:und C e = .int .u8) (hs:sizeT C e = 1) (hb:bf C e = 1) (hz:bC C e = true) {o g t:Nat} {ob:Obj} {l m:List UInt8} {src:AV}
  (ho:H[o]? = some (some ob)) (h:RwT (.pb l) g t ob) (hsrc:gU H src = some (.pb m,0)∨(gU H src = some (.pn,0)∧m = [])) (hn:l.length + m.length≤100000000) :
  ∃ ob',RwT (.pb (l ++ m)) (g + 1) t ob'∧bD C H T (.sl o 0 l.length g) src = some (.sl o 0 (l.length + m.length) (g + 1),upd H o (some ob')):=by
 have hlive:live H o g = some ob:=by simp [live,ho,h.g]
 have hroom:fK C e (l.length + m.length) = true:=by simp [fK,hb];omega
 obtain ⟨p,hp1,hp2⟩:∃ p,gU H src = some (p,0)∧PB p m:=by
  rcases hsrc with h1 | ⟨h1,h2⟩
  ·exact ⟨_,h1,.inl rfl⟩
  ·exact ⟨_,h1,.inr ⟨rfl,h2⟩⟩
 have hpl:=hp2.ah
 have hpa:og (.pb l) p = some (.pb (l ++ m)):=by
  rcases hp2 with rfl | ⟨rfl,rfl⟩
  ·rfl
  ·simp [og]
 have hj:fA t 0 = some t:=by
  unfold fA
  by_cases h0:t = 0
  ·rw [if_pos h0,h0]
  ·rw [if_neg h0,if_pos (.inl rfl)]
 refine ⟨{ ob with p:=.pb (l ++ m),g:=g + 1,cap:=(match ob.cap with | some c=>if 0 + l.length + AM.ah p≤c then some (c - 0) else none | none=>none),z:=(if AM.ah ob.p = 0 then ob.z else 1),tg:=t },⟨rfl,rfl,h.row,h.ids,rfl⟩,?_⟩
 unfold bD
 simp only [hT,hs,hz,hp1,hlive,h.row,h.ids,h.p,h.tg]
 simp only [show ¬ ((1:Nat) = 0∨true = false) by simp,if_false]
 have hc:True∧True∧0 + l.length = AM.ah (.pb l)∧aK (.pb l) = 1∧fK C e (l.length + AM.ah p) = true:=⟨trivial,trivial,by simp [AM.ah],rfl,by rw [hpl];exact hroom⟩
 rw [if_pos hc]
 simp only [iw,Nat.zero_add,Nat.le_refl,if_true,List.drop_zero,List.take_length,hpa,hj,aK]
 simp [hpl]
 rfl
theorem RwT.rw {p:AV} {g:Nat} {ob:Obj} (h:RwT p g 0 ob):Rw p g ob:=⟨h.p,h.g,h.row,h.ids,h.tg⟩
theorem Rw.rwt {p:AV} {g:Nat} {ob:Obj} (h:Rw p g ob):RwT p g 0 ob:=⟨h.p,h.g,h.row,h.ids,h.tg⟩
end
end Go.AM
namespace Go.AM
section
variable {Q Q':Out→Prop} {C:Ctx} {T:Cf} {f m:Nat} {fr:Frame} {H:Heap}
theorem aj.mono {c:Code} (h:aj Q C T f m c fr H) (hq:∀ o,Q o→Q' o):aj Q' C T f m c fr H:=by
 obtain ⟨o,h1,h2⟩:=h
 exact ⟨o,hq o h1,h2⟩
theorem aj.kJ {c:Code} (I:Nat→Frame→Heap→Prop)
  (step:∀ k fr H,I k fr H→aj (fun o=>(o.ex = .normal∧∃ k',k' < k∧I k' o.fr o.H)∨(o.ex ≠ .normal∧Q o)) C T f m c fr H) {k:Nat} (h:I k fr H) :
  aj Q C T f m (.loop c) fr H:=by
 induction k using Nat.strongRecOn generalizing fr H with
 | _ k ih =>
  obtain ⟨⟨ex,fr1,H1⟩,hq,hr⟩:=step k fr H h
  rcases hq with ⟨he,k',hk,hi⟩ | ⟨he,hq⟩
  ·simp only at he hi
   subst he
   obtain ⟨o,hq,ho⟩:=ih k' hk hi
   exact ⟨o,hq,Run.zL hr ho⟩
  ·exact ⟨_,hq,Run.Cm hr he⟩
theorem aj.Xk {a b:Code} (h:aj Q C T f m a fr H) (hq:∀ o,Q o→o.ex ≠ .normal):aj Q C T f m (.seq a b) fr H:=by
 obtain ⟨o,h1,h2⟩:=h
 exact ⟨o,h1,Run.bH h2 (hq o h1)⟩
theorem aj.blk {id:Nat} {c:Code} (h:aj Q C T f m c fr H) (hq:∀ o,Q o→o.ex ≠ .exit id):aj Q C T f m (.block id c) fr H:=by
 obtain ⟨o,h1,h2⟩:=h
 exact ⟨o,h1,Run.block h2 (hq o h1)⟩
def Or2 (P:Frame→Heap→Prop) (Q:Out→Prop) (o:Out):Prop:=(o.ex = .normal∧P o.fr o.H)∨(o.ex ≠ .normal∧Q o)
theorem aj.or {a b:Code} {P:Frame→Heap→Prop} (h:aj (Or2 P Q) C T f m a fr H) (h':∀ fr' H',P fr' H'→aj Q C T f m b fr' H'):aj Q C T f m (.seq a b) fr H:=by
 obtain ⟨⟨ex,fr1,H1⟩,hq,hr⟩:=h
 rcases hq with ⟨he,hp⟩ | ⟨he,hq⟩
 ·simp only at he hp
  subst he
  exact aj.seq hr (h' _ _ hp)
 ·exact ⟨_,hq,Run.bH hr he⟩
theorem aj.goes {c:Code} {P:Frame→Heap→Prop} (h:aj (Goes P) C T f m c fr H):aj (Or2 P Q) C T f m c fr H:=h.mono fun _ h=>.inl h
theorem aj.Qo {c:Operand} {a b:Code} (hc:aC C fr c = .bool true) (h:aj Q C T f m a fr H):aj Q C T f m (.cond c a b) fr H:=by
 obtain ⟨o,hq,ho⟩:=h
 exact ⟨o,hq,Run.cond (d:=true) hc ho⟩
theorem aj.YK {c:Operand} {a b:Code} (hc:aC C fr c = .bool false) (h:aj Q C T f m b fr H):aj Q C T f m (.cond c a b) fr H:=by
 obtain ⟨o,hq,ho⟩:=h
 exact ⟨o,hq,Run.cond (d:=false) hc ho⟩
theorem aj.NP {id:Nat} {c:Code} {P:Frame→Heap→Prop} (h:aj (fun o=>Exits id P o∨(o.ex = .ret∧Q o)) C T f m c fr H):aj (Or2 P Q) C T f m (.block id c) fr H:=by
 obtain ⟨⟨ex,fr1,H1⟩,hq,hr⟩:=h
 rcases hq with ⟨he,hp⟩ | ⟨he,hq⟩
 ·simp only at he hp
  subst he
  exact ⟨_,.inl ⟨rfl,hp⟩,Run.eF hr⟩
 ·simp only at he
  subst he
  exact ⟨_,.inr ⟨by simp,hq⟩,Run.block hr (by simp)⟩
end
def aF:List Nat→Code→Option Code
 | [],c=>some c
 | 0 :: r,.seq a _=>aF r a
 | _ :: r,.seq _ b=>aF r b
 | 0 :: r,.cond _ a _=>aF r a
 | _ :: r,.cond _ _ b=>aF r b
 | _ :: r,.block _ c=>aF r c
 | _ :: r,.loop c=>aF r c
 | _,_=>none
theorem piece {O:Option Code} {P:Code→Prop} (h:∃ code,O = some code∧P code) (code':Code) (h':O = some code'):P code':=by
 obtain ⟨c,h1,h2⟩:=h
 rw [h'] at h1
 exact (Option.some.inj h1) ▸ h2
def orB (y:UInt8) (j:Nat):UInt8:=UInt8.ofNat (y.toNat ||| 2 ^ j)
end Go.AM
namespace Go.AM
section
variable {C:Ctx} {T:Cf} {f:Nat} {H:Heap}
end
end Go.AM
namespace Go.AM
section
variable {C:Ctx} {T:Cf} {f:Nat} {H:Heap}
end
end Go.AM
namespace Go.AM
section
variable {C:Ctx} {f:Nat} {H:Heap} {T:Cf}
theorem Cc {T e es:Nat} (hT:und C T = .slice e) (hs:sizeT C e = es) (hes:es ≠ 0) (hb:bf C e≤4096) (hz:bC C e = true) {o g:Nat} {ob:Obj} {l m:List AV} {src:AV}
  (ho:H[o]? = some (some ob)) (h:Rw (.pr es l) g ob) (hsrc:gU H src = some (.pr es m,0)) (hn:l.length + m.length≤100000000) :
  ∃ ob',Rw (.pr es (l ++ m)) (g + 1) ob'∧bD C H T (.sl o 0 l.length g) src = some (.sl o 0 (l.length + m.length) (g + 1),upd H o (some ob')):=by
 have hlive:live H o g = some ob:=by simp [live,ho,h.g]
 have hroom:fK C e (l.length + m.length) = true:=by
  unfold fK
  have:(l.length + m.length) * bf C e≤100000000 * 4096:=Nat.mul_le_mul hn hb
  exact decide_eq_true ⟨by omega,by omega⟩
 refine ⟨{ ob with p:=.pr es (l ++ m),g:=g + 1,cap:=(match ob.cap with | some c=>if 0 + l.length + AM.ah (.pr es m)≤c then some (c - 0) else none | none=>none),z:=(if AM.ah ob.p = 0 then ob.z else 1),tg:=0 },⟨rfl,rfl,h.row,h.ids,rfl⟩,?_⟩
 unfold bD
 simp only [hT,hs,hz,hsrc,hlive,h.row,h.ids,h.p,h.tg]
 rw [if_neg (by simp [hes])]
 have hc:True∧True∧0 + l.length = AM.ah (.pr es l)∧aK (.pr es l) = es∧fK C e (l.length + AM.ah (.pr es m)) = true:=⟨trivial,trivial,by simp [AM.ah],rfl,by simpa [AM.ah] using hroom⟩
 rw [if_pos hc]
 simp only [iw,Nat.zero_add,Nat.le_refl,if_true,List.drop_zero,List.take_length,og,fA,aK]
 simp [AM.ah]
 rfl
theorem Ev1.newR (hT:Below C T) {args xs:List AV} {aN:List dZ} {fn:Func} {c:Code} {n es:Nat} {l rest:List AV}
  (hF:C.P.funcs[f]? = some fn) (hb:fn.body = some c) (hl:aH C f H 0 args = some (xs,aN)) (hi:aJ xs = []) (hn:xs.length + 1 < bW) (hri:aJ rest = []) (hrt:bQ rest = []) (hnt:fU rest = true) (hpi:aJ l = []) (hpt:bQ l = [])
  (h:aj (jV fun fr H1=>∃ o g ob,aQ C fr H1 fn.results.toList = some (.sl o 0 n g :: rest)∧H1[o]? = some (some ob)∧Rw (.pr es l) g ob) C T f 0 c (numbered 0 (coerce C xs (aI C f))) []) :
  ∃ ob',Rw (.pr es l) 0 ob'∧Ev1 C f args H (aO (.sl H.length 0 n 0 :: rest),H ++ [some ob']):=by
 obtain ⟨⟨ex,fr,H1⟩,⟨he,o,g,ob,hr,ho,hw⟩,hrun⟩:=h
 simp only at he hr ho
 subst he
 refine ⟨AM.fresh ob,⟨hw.p,rfl,hw.row,hw.ids,rfl⟩,?_⟩
 have:=Ev1.Xf (H:=H) hT hF hb hl hi hn hrun (.inr rfl) hr (o:=o) (g:=g) (ob:=ob) (by rw [lq (l:=.sl o 0 n g :: rest) hnt];simp [aJ,ids,hri]) (by rw [jS (l:=.sl o 0 n g :: rest) hnt];simp [bQ,tags,hrt]) (by simp [live,ho,hw.g]) hw.ids (by rw [hw.p];exact hpi) (by rw [hw.p];exact hpt) (by simp [dB,hw.ids,hw.p,hw.tg]) hw.tg
 rw [sD (w:=.sl H.length 0 n 0) (by simp [ren]) (eu rest hri (fun t ht=>rfl)) (by exact hnt) (by exact hnt)] at this
 exact this
def NQ (H:Heap) (a:AV) (es:Nat) (l:List AV):Prop :=
 ∃ c p,(p = .pr es l∨(p = .pn∧l = []))∧(c = 0→l = [])∧∀ t,∃ x,eU H t a = some (.ro c p t,x)
theorem NQ.ro {c t es:Nat} {l:List AV} (hc:c = 0→l = []):NQ H (.ro c (.pr es l) t) es l :=
 ⟨c,_,.inl rfl,hc,fun _=>⟨⟨[],[t]⟩,rfl⟩⟩
theorem NQ.whole {o g es:Nat} {ob:Obj} {l:List AV} (ho:H[o]? = some (some ob)) (h:Rw (.pr es l) g ob):NQ H (.sl o 0 l.length g) es l:=by
 have hlive:live H o g = some ob:=by simp [live,ho,h.g]
 refine ⟨if ob.z = 0∧AM.ah ob.p = 0 then 0 else 2,.pr es l,.inl rfl,fun h0=>?_,fun t=>⟨⟨[o],[ob.tg]⟩,?_⟩⟩
 ·split at h0
  ·rename_i hz
   have hm:l.length = 0:=by have:=hz.2;rw [h.p] at this;exact this
   exact List.eq_nil_of_length_eq_zero hm
  ·cases h0
 ·simp only [eU,dY,hlive,h.ids,h.p,iw]
  simp
end
end Go.AM
namespace Go.AM
def EM (b:Array Nat) (n:Nat):List (Nat × Nat) :=
 (List.range n).flatMap fun j=>(List.range j).filterMap fun i=>if (b.getD j 0).testBit i then none else some (i,j)
def VI (ms:List Mark) (p:Nat × Nat):Bool:=match ms[p.1]?,ms[p.2]? with | some x,some y=>bear x y | _,_=>false
theorem Lj {b:Array Nat} {ms:List Mark} {ps:List (Nat × Nat)} (h:EM b ms.length = ps) (h2:ps.all (VI ms) = true):vP b ms = true:=by
 unfold vP
 rw [List.all_eq_true]
 intro j hj
 rw [List.all_eq_true]
 intro i hi
 cases hb:(b.getD j 0).testBit i with
 | true=>rfl
 | false =>
  rw [Bool.false_or]
  subst h
  have:=List.all_eq_true.1 h2 (i,j) (by
   unfold EM
   rw [List.mem_flatMap]
   exact ⟨j,hj,List.mem_filterMap.2 ⟨i,hi,by rw [hb];rfl⟩⟩)
  exact this
end Go.AM
namespace Go.AM
section
variable {C:Ctx} {f:Nat} {H:Heap} {T:Cf}
def NR (H:Heap) (a:AV) (l:List AV):Prop :=
 ∃ c p,(p = .pc l∨(p = .pn∧l = []))∧(c = 0→l = [])∧∀ t,∃ x,eU H t a = some (.ro c p t,x)
theorem NR.ro {c t:Nat} {l:List AV} (hc:c = 0→l = []):NR H (.ro c (.pc l) t) l :=
 ⟨c,_,.inl rfl,hc,fun _=>⟨⟨[],[t]⟩,rfl⟩⟩
theorem NR.whole {o g:Nat} {ob:Obj} {l:List AV} (ho:H[o]? = some (some ob)) (h:Rw (.pc l) g ob):NR H (.sl o 0 l.length g) l:=by
 have hlive:live H o g = some ob:=by simp [live,ho,h.g]
 refine ⟨if ob.z = 0∧AM.ah ob.p = 0 then 0 else 2,.pc l,.inl rfl,fun h0=>?_,fun t=>⟨⟨[o],[ob.tg]⟩,?_⟩⟩
 ·split at h0
  ·rename_i hz
   have hm:l.length = 0:=by have:=hz.2;rw [h.p] at this;exact this
   exact List.eq_nil_of_length_eq_zero hm
  ·cases h0
 ·simp only [eU,dY,hlive,h.ids,h.p,iw]
  simp
end
end Go.AM
namespace Go.AM
section
variable {C:Ctx} {f:Nat} {H:Heap} {T:Cf}
end
end Go.AM
namespace Go.AM
section
variable {C:Ctx} {f:Nat} {H:Heap} {T:Cf}
end
end Go.AM
namespace Go.AM
theorem ji {ρ:Nat→Nat→Option (Nat × Nat)} {τ:Nat→Nat} {H:Heap} {π:List Nat} {H1:Heap}:∀ (l:List Nat) (k:Nat) (B:Heap),(dw ρ τ H π H1 k l B).length = B.length
 | [],_,_=>rfl
 | o :: r,k,B=>by rw [dw,ji r];simp [upd]
theorem xI {ρ:Nat→Nat→Option (Nat × Nat)} {τ:Nat→Nat} {H:Heap} {π:List Nat} {H1:Heap} {j:Nat}:∀ (l:List Nat) (k:Nat) (B:Heap),j ∉ l→(dw ρ τ H π H1 k l B)[j]? = B[j]?
 | [],_,_,_=>rfl
 | o :: r,k,B,h=>by
  rw [dw,xI r _ _ (fun h2=>h (List.mem_cons_of_mem _ h2))]
  unfold upd
  rw [List.getElem?_set_ne (fun h2=>h (by rw [h2];exact List.mem_cons_self ..))]
theorem CQ {ρ:Nat→Nat→Option (Nat × Nat)} {τ:Nat→Nat} {H:Heap} {π:List Nat} {H1:Heap}:∀ (l:List Nat) (k i o:Nat) (B:Heap),l.Nodup→l[i]? = some o→o < B.length →
  (dw ρ τ H π H1 k l B)[o]? = some ((aZ H1 (k + i)).map fun ob=>aU ρ τ (fJ H π (k + i) ob.g) ob)
 | [],_,i,_,_,_,h,_=>by simp at h
 | a :: r,k,0,o,B,hn,h,hl=>by
  simp at h
  subst h
  rw [List.nodup_cons] at hn
  rw [dw,xI r _ _ hn.1]
  unfold upd
  rw [List.getElem?_set_self hl,Nat.add_zero]
 | a :: r,k,i + 1,o,B,hn,h,hl=>by
  rw [List.nodup_cons] at hn
  rw [dw,CQ r (k + 1) i o _ hn.2 (by simpa using h) (by simpa [upd] using hl),show k + 1 + i = k + (i + 1) by omega]
section
variable {C:Ctx} {f:Nat} {H:Heap} {T:Cf}
def okTags (n:Nat) (ob:Obj):Prop:=(∀ t ∈ tags ob.p,t = 0∨t = n)∧(ob.tg = 0∨ob.tg = n)
theorem okTags.ob {n:Nat} {ob:Obj} (h:okTags n ob) (hp:∀ l,ob.p ≠ .pm l):∀ t ∈ dB ob,t = 0∨t = n:=by
 intro t ht
 unfold dB at ht
 split at ht
 ·exact h.1 t ht
 ·rcases List.mem_cons.1 ht with rfl | ht
  ·exact h.2
  ·split at ht
   ·rename_i l hl;exact absurd hl (hp l)
   ·simp at ht
end
end Go.AM
namespace Go.AM
theorem IW {k:Nat}:∀ {new:List Nat},k ∈ new→∃ i,new[i]? = some k∧∀ j,idxOf new k j = some (j + i)
 | a :: r,h=>by
  by_cases e:a = k
  ·subst e
   exact ⟨0,rfl,fun j=>by simp [idxOf]⟩
  ·have hk:k ∈ r:=by
    rcases List.mem_cons.1 h with h | h
    ·exact absurd h.symm e
    ·exact h
   obtain ⟨i,h1,h2⟩:=IW hk
   refine ⟨i + 1,by simpa using h1,fun j=>?_⟩
   unfold idxOf
   rw [if_neg e,h2]
   congr 1
   omega
def At (H:Heap) (π new:List Nat) (k o':Nat):Prop:=(k < π.length∧π[k]? = some o')∨(π.length≤k∧∃ i,new[i]? = some k∧o' = H.length + i)
theorem At.inj {H:Heap} {π new:List Nat} {k k2 o o2:Nat} (hn:π.Nodup) (hlt:∀ x ∈ π,x < H.length) (h:At H π new k o) (h2:At H π new k2 o2) (hne:k ≠ k2):o ≠ o2:=by
 rcases h with ⟨h1,h3⟩ | ⟨h1,i,h3,rfl⟩ <;> rcases h2 with ⟨g1,g3⟩ | ⟨g1,j,g3,rfl⟩
 ·intro e
  subst e
  rw [List.getElem?_eq_getElem h1] at h3
  rw [List.getElem?_eq_getElem g1] at g3
  have:=(List.getElem_inj hn (h₀:=h1) (h₁:=g1)).1 ((Option.some.inj h3).trans (Option.some.inj g3).symm)
  exact hne this
 ·have:=hlt o (List.mem_of_getElem? h3)
  omega
 ·have:=hlt o2 (List.mem_of_getElem? g3)
  omega
 ·intro e
  have:i = j:=by omega
  subst this
  rw [h3] at g3
  exact hne (Option.some.inj g3)
theorem Q5 {H E:Heap} {π new:List Nat} {τ:Nat→Nat} (hn:π.Nodup) (hlt:∀ x ∈ π,x < H.length) {k:Nat} {ob:Obj} (hk:aZ E k = some ob) (hm:k < π.length∨(π.length≤k∧k ∈ new)) :
  ∃ o' g',cu H π new E k ob.g = some (o',g')∧(dw (cu H π new E) τ H π E 0 π H ++ new.map fun o=>(aZ E o).map (aU (cu H π new E) τ 0))[o']? = some (some (aU (cu H π new E) τ g' ob))∧At H π new k o'∧(k < π.length→g' = fJ H π k ob.g):=by
 have hl:live E k ob.g = some ob:=by
  unfold aZ at hk
  unfold live
  cases h:E[k]? with
  | none=>rw [h] at hk;simp at hk
  | some x =>
   cases x with
   | none=>rw [h] at hk;simp at hk
   | some y =>
    rw [h] at hk
    simp at hk
    subst hk
    simp
 rcases hm with hm | ⟨hm,hmem⟩
 ·obtain ⟨o',ho'⟩:∃ o',π[k]? = some o':=⟨_,List.getElem?_eq_getElem hm⟩
  have hol:=hlt o' (List.mem_of_getElem? ho')
  refine ⟨o',fJ H π k ob.g,?_,?_,.inl ⟨hm,ho'⟩,fun _=>rfl⟩
  ·unfold cu
   rw [hl]
   simp only
   rw [if_pos hm,ho']
   rfl
  ·rw [List.getElem?_append_left (by rw [ji];exact hol)]
   have:=CQ (ρ:=cu H π new E) (τ:=τ) (H:=H) (π:=π) (H1:=E) π 0 k o' H hn ho' hol
   rw [this,Nat.zero_add,hk]
   rfl
 ·obtain ⟨i,hi,hj⟩:=IW hmem
  refine ⟨H.length + i,0,?_,?_,.inr ⟨hm,i,hi,rfl⟩,fun h=>by omega⟩
  ·unfold cu
   rw [hl]
   simp only
   rw [if_neg (by omega),hj]
   rfl
  ·rw [List.getElem?_append_right (by rw [ji];omega),ji,Nat.add_sub_cancel_left,List.getElem?_map,hi]
   simp [hk]
theorem Q7 {H E:Heap} {π new:List Nat} {τ:Nat→Nat} {ρ:Nat→Nat→Option (Nat × Nat)} {j:Nat} (hj:j < H.length) (hjp:j ∉ π):(dw ρ τ H π E 0 π H ++ new.map fun o=>(aZ E o).map (aU ρ τ 0))[j]? = H[j]?:=by
 rw [List.getElem?_append_left (by rw [ji];exact hj),xI _ _ _ hjp]
end Go.AM
namespace Go.AM
def jI (π:List (Nat × Nat)) (k _:Nat):Option (Nat × Nat):=π[k]?
def idN (o g:Nat):Option (Nat × Nat):=some (o,g)
def tz (_:Nat):Nat:=0
section
variable {ρ ρ2 ρ3:Nat→Nat→Option (Nat × Nat)} {τ τ2 τ3:Nat→Nat}
mutual
theorem oG (h:∀ o g,(ρ o g).bind (fun x=>ρ2 x.1 x.2) = ρ3 o g) (ht:∀ t,τ2 (τ t) = τ3 t):(v:AV)→ren ρ2 τ2 (ren ρ τ v) = ren ρ3 τ3 v
 | .ptr o i f g=>by
  have h1:=h o g
  simp only [ren]
  rcases e:ρ o g with _ | ⟨a,b⟩
  ·rw [e] at h1;simp only [Option.bind_none] at h1;simp [ren,← h1]
  ·rw [e] at h1;simp only [Option.bind_some] at h1;simp [ren,← h1]
 | .sl o i f g=>by
  have h1:=h o g
  simp only [ren]
  rcases e:ρ o g with _ | ⟨a,b⟩
  ·rw [e] at h1;simp only [Option.bind_none] at h1;simp [ren,← h1]
  ·rw [e] at h1;simp only [Option.bind_some] at h1;simp [ren,← h1]
 | .map o g=>by
  have h1:=h o g
  simp only [ren]
  rcases e:ρ o g with _ | ⟨a,b⟩
  ·rw [e] at h1;simp only [Option.bind_none] at h1;simp [ren,← h1]
  ·rw [e] at h1;simp only [Option.bind_some] at h1;simp [ren,← h1]
 | .ro c p t=>by simp only [ren,ht]
 | .iR p i f t=>by simp only [ren,ht]
 | .agg p=>by simp only [ren,oG h ht p]
 | .tup l=>by simp only [ren,rE h ht l]
 | .fn f l=>by simp only [ren,rE h ht l]
 | .pc l=>by simp only [ren,rE h ht l]
 | .pr e l=>by simp only [ren,rE h ht l]
 | .pm l=>by simp only [ren,rE h ht l]
 | .top=>rfl
 | .bool _=>rfl
 | .int _ _=>rfl
 | .str _=>rfl
 | .gy=>rfl
 | .jA=>rfl
 | .gY=>rfl
 | .pn=>rfl
 | .pb _=>rfl
 | .pi _ _=>rfl
theorem rE (h:∀ o g,(ρ o g).bind (fun x=>ρ2 x.1 x.2) = ρ3 o g) (ht:∀ t,τ2 (τ t) = τ3 t):(l:List AV)→bZ ρ2 τ2 (bZ ρ τ l) = bZ ρ3 τ3 l
 | []=>rfl
 | a :: r=>by simp only [bZ,oG h ht a,rE h ht r]
end
end
section
variable {π:List (Nat × Nat)} {τ:Nat→Nat}
def sg (π:List (Nat × Nat)) (k:Nat):Nat:=(π.getD k (0,0)).1
mutual
theorem BI:(v:AV)→(∀ o ∈ ids v,o < π.length)→ids (ren (jI π) τ v) = (ids v).map (sg π)
 | .ptr o i f g,h=>by
  have hl:o < π.length:=h o (by simp [ids])
  simp only [ren,jI,List.getElem?_eq_getElem hl]
  simp [ids,sg,List.getD,List.getElem?_eq_getElem hl]
 | .sl o i f g,h=>by
  have hl:o < π.length:=h o (by simp [ids])
  simp only [ren,jI,List.getElem?_eq_getElem hl]
  simp [ids,sg,List.getD,List.getElem?_eq_getElem hl]
 | .map o g,h=>by
  have hl:o < π.length:=h o (by simp [ids])
  simp only [ren,jI,List.getElem?_eq_getElem hl]
  simp [ids,sg,List.getD,List.getElem?_eq_getElem hl]
 | .ro c p t,_=>rfl
 | .iR p i f t,_=>rfl
 | .agg p,h=>by simp only [ids] at h;simp only [ren,ids,BI p h]
 | .tup l,h=>by simp only [ids] at h;simp only [ren,ids,rF l h]
 | .fn f l,h=>by simp only [ids] at h;simp only [ren,ids,rF l h]
 | .pc l,h=>by simp only [ids] at h;simp only [ren,ids,rF l h]
 | .pr e l,h=>by simp only [ids] at h;simp only [ren,ids,rF l h]
 | .pm l,h=>by simp only [ids] at h;simp only [ren,ids,rF l h]
 | .top,_=>rfl
 | .bool _,_=>rfl
 | .int _ _,_=>rfl
 | .str _,_=>rfl
 | .gy,_=>rfl
 | .jA,_=>rfl
 | .gY,_=>rfl
 | .pn,_=>rfl
 | .pb _,_=>rfl
 | .pi _ _,_=>rfl
theorem rF:(l:List AV)→(∀ o ∈ aJ l,o < π.length)→aJ (bZ (jI π) τ l) = (aJ l).map (sg π)
 | [],_=>rfl
 | a :: r,h=>by
  simp only [aJ,List.mem_append] at h
  simp only [bZ,aJ,BI a (fun o ho=>h o (.inl ho)),rF r (fun o ho=>h o (.inr ho)),List.map_append]
end
end
structure Like (t:Nat) (π:List (Nat × Nat)) (g:Nat) (ob0 ob:Obj):Prop where
 p:ren idN tz ob.p = ren (jI π) tz ob0.p
 gen:ob.g = g
 row:ob.row = ob0.row
 ids:ob.ids = ob0.ids
 bx:ob0.row = false→ob.cap = ob0.cap∧ob.z = ob0.z∧g = 0
 tg:ob.tg = 0∨ob.tg = t
 tp:∀ k ∈ tags ob.p,k = 0∨k = t
structure Img (t:Nat) (H:Heap) (π:List (Nat × Nat)) (S:List Obj):Prop where
 len:π.length = S.length
 nd:∀ (j k oj gj ok gk:Nat),π[j]? = some (oj,gj)→π[k]? = some (ok,gk)→oj = ok→j = k
 ob:∀ (k:Nat) (ob0:Obj),S[k]? = some ob0→∃ o g ob,π[k]? = some (o,g)∧H[o]? = some (some ob)∧Like t π g ob0 ob
def OkS (S:List Obj):Prop:=∀ (k:Nat) (ob0:Obj),S[k]? = some ob0→∀ o ∈ ids ob0.p,o < S.length
def pi0 (K:Nat):List (Nat × Nat):=(List.range K).map fun k=>(k,0)
theorem zQ {K k:Nat}:(pi0 K)[k]? = if k < K then some (k,0) else none:=by
 unfold pi0
 rw [List.getElem?_map]
 by_cases h:k < K
 ·rw [List.getElem?_range h,if_pos h];rfl
 ·rw [List.getElem?_eq_none (by simpa using h),if_neg h];rfl
theorem kD {π:List (Nat × Nat)} {k o g:Nat} (h:π[k]? = some (o,g)):sg π k = o:=by simp [sg,List.getD,h]
section
variable {t:Nat} {H:Heap} {π:List (Nat × Nat)} {S:List Obj}
theorem Img.at' (h:Img t H π S) {k:Nat} (hk:k < S.length):∃ o g ob,π[k]? = some (o,g)∧H[o]? = some (some ob)∧Like t π g S[k] ob:=h.ob k S[k] (List.getElem?_eq_getElem hk)
theorem Img.ids (h:Img t H π S) (hok:OkS S) {k:Nat} {ob0 ob:Obj} {g:Nat} (hk:S[k]? = some ob0) (hl:Like t π g ob0 ob):AM.ids ob.p = (AM.ids ob0.p).map (sg π):=by
 have h1:AM.ids (ren idN tz ob.p) = AM.ids ob.p:=NK.oW ob.p
 rw [← h1,hl.p]
 exact BI _ fun o ho=>by rw [h.len];exact hok k ob0 hk o ho
theorem Img.Gz (h:Img t H π S) {j k:Nat} (hj:j < S.length) (hk:k < S.length) (e:sg π j = sg π k):j = k:=by
 obtain ⟨o,g,_,h1,_⟩:=h.at' hj
 obtain ⟨o2,g2,_,h2,_⟩:=h.at' hk
 rw [kD h1,kD h2] at e
 exact h.nd j k _ _ _ _ h1 h2 e
theorem Img.fst (h:Img t H π S):π.map Prod.fst = (List.range S.length).map (sg π):=by
 refine List.ext_getElem? fun k=>?_
 rw [List.getElem?_map,List.getElem?_map]
 by_cases hk:k < S.length
 ·obtain ⟨o,g,_,h1,_⟩:=h.at' hk
  rw [h1,List.getElem?_range hk]
  simp [kD h1]
 ·rw [List.getElem?_eq_none (by rw [h.len];omega),List.getElem?_eq_none (by simpa using hk)];rfl
theorem Img.nodup (h:Img t H π S):(π.map Prod.fst).Nodup:=by
 rw [h.fst,List.nodup_iff_pairwise_ne,List.pairwise_map]
 have:=(List.nodup_iff_pairwise_ne.1 (List.nodup_range (n:=S.length)))
 refine List.Pairwise.imp_of_mem ?_ this
 intro a b ha hb hne e
 exact hne (h.Gz (List.mem_range.1 ha) (List.mem_range.1 hb) e)
theorem Img.lt (h:Img t H π S):∀ x ∈ π.map Prod.fst,x < H.length:=by
 intro x hx
 rw [h.fst] at hx
 obtain ⟨k,hk,rfl⟩:=List.mem_map.1 hx
 obtain ⟨o,g,ob,h1,h2,_⟩:=h.at' (List.mem_range.1 hk)
 rw [kD h1]
 exact (List.getElem?_eq_some_iff.1 h2).1
theorem Img.qJ {k o g:Nat} (h:π[k]? = some (o,g)):(π.map Prod.fst)[k]? = some o:=by rw [List.getElem?_map,h];rfl
theorem vS (h:Img t H π S) (hok:OkS S):∀ (n:Nat) (l acc:List Nat),(∀ o ∈ l,o < S.length)→(∀ o ∈ acc,o < S.length) →
  reach H n (l.map (sg π)) (acc.map (sg π)) = (reach (S.map some) n l acc).map (sg π)∧∀ o ∈ reach (S.map some) n l acc,o < S.length
 | 0,l,acc,_,ha=>⟨rfl,ha⟩
 | n + 1,[],acc,_,ha=>⟨rfl,ha⟩
 | n + 1,o :: r,acc,hl,ha=>by
  have ho:=hl o (List.mem_cons_self ..)
  obtain ⟨o',g,ob,h1,h2,h3⟩:=h.at' ho
  have hc:(acc.map (sg π)).contains (sg π o) = acc.contains o:=by
   rw [Bool.eq_iff_iff]
   simp only [List.contains_iff_mem,List.mem_map]
   constructor
   ·rintro ⟨a,h4,h5⟩
    rw [← h.Gz (ha a h4) ho h5];exact h4
   ·intro h4;exact ⟨o,h4,rfl⟩
  have hS:(S.map some)[o]? = some (some S[o]):=by rw [List.getElem?_map,List.getElem?_eq_getElem ho];rfl
  simp only [List.map_cons,reach]
  rw [hc]
  by_cases hm:acc.contains o = true
  ·rw [if_pos hm,if_pos hm]
   exact vS h hok n r acc (fun x hx=>hl x (List.mem_cons_of_mem _ hx)) ha
  ·rw [if_neg hm,if_neg hm,hS,kD h1,h2]
   simp only
   have hi:=h.ids hok (List.getElem?_eq_getElem ho) h3
   have e:(if ob.ids = true then AM.ids ob.p else []) ++ r.map (sg π) = ((if S[o].ids = true then AM.ids S[o].p else []) ++ r).map (sg π):=by
    rw [h3.ids,hi,List.map_append]
    split <;> rfl
   have e2:acc.map (sg π) ++ [o'] = (acc ++ [o]).map (sg π):=by rw [List.map_append,List.map_cons,List.map_nil,kD h1]
   rw [e,e2]
   refine vS h hok n _ _ ?_ ?_
   ·intro x hx
    rcases List.mem_append.1 hx with hx | hx
    ·split at hx
     ·exact hok o _ (List.getElem?_eq_getElem ho) x hx
     ·cases hx
    ·exact hl x (List.mem_cons_of_mem _ hx)
   ·intro x hx
    rcases List.mem_append.1 hx with hx | hx
    ·exact ha x hx
    ·rw [List.mem_singleton.1 hx];exact ho
theorem IX {l:List Nat} (hn:l.Nodup):∀ {k o i:Nat},l[k]? = some o→idxOf l o i = some (i + k):=by
 induction l with
 | nil=>intro k o i h;simp at h
 | cons a r ih =>
  intro k o i h
  rw [List.nodup_cons] at hn
  unfold idxOf
  cases k with
  | zero =>
   simp at h
   rw [if_pos h];rfl
  | succ k =>
   simp at h
   have:a ≠ o:=fun e=>hn.1 (e ▸ List.mem_of_getElem? h)
   rw [if_neg this,ih hn.2 h]
   congr 1
   omega
theorem Img.dh (h:Img t H π S) (k g0:Nat):(jI π k g0).bind (fun x=>AM.dh H (π.map Prod.fst) x.1 x.2) = jI (pi0 S.length) k g0:=by
 unfold jI
 rw [zQ]
 by_cases hk:k < S.length
 ·obtain ⟨o,g,ob,h1,h2,h3⟩:=h.at' hk
  rw [h1,if_pos hk]
  simp only [Option.bind_some]
  have hl:live H o g = some ob:=bT.2 ⟨h2,h3.gen⟩
  unfold AM.dh
  rw [hl]
  simp only
  rw [IX h.nodup (Img.qJ h1)]
  simp
 ·rw [List.getElem?_eq_none (by rw [h.len];omega),if_neg hk];rfl
theorem Img.into (h:Img t H π S) (n:Nat):Img n ((π.map Prod.fst).map fun o=>(aZ H o).map (aU (AM.dh H (π.map Prod.fst)) (fun _=>n) 0)) (pi0 S.length) S where
 len:=by simp [pi0]
 nd:=by
  intro j k oj gj ok gk h1 h2 e
  rw [zQ] at h1 h2
  split at h1
  ·split at h2
   ·simp only [Option.some.injEq,Prod.mk.injEq] at h1 h2
    omega
   ·cases h2
  ·cases h1
 ob:=by
  intro k ob0 hk
  obtain ⟨o,g,ob,h1,h2,h3⟩:=h.ob k ob0 hk
  have hlt:=(List.getElem?_eq_some_iff.1 hk).1
  have ht:∀ v:AV,∀ x ∈ tags (ren (AM.dh H (π.map Prod.fst)) (fun _=>n) v),x = n:=by
   intro v x hx
   rw [jW] at hx
   obtain ⟨_,_,rfl⟩:=List.mem_map.1 hx
   rfl
  refine ⟨k,0,aU (AM.dh H (π.map Prod.fst)) (fun _=>n) 0 ob,by rw [zQ,if_pos hlt],?_,⟨?_,rfl,h3.row,h3.ids,fun hr=>⟨(h3.bx hr).1,(h3.bx hr).2.1,rfl⟩,.inr rfl,fun x hx=>.inr (ht ob.p x hx)⟩⟩
  ·rw [List.getElem?_map,Img.qJ h1]
   simp [aZ,h2]
  ·simp only [aU]
   rw [oG (ρ:=AM.dh H (π.map Prod.fst)) (ρ2:=idN) (τ:=fun _=>n) (τ2:=tz) (ρ3:=AM.dh H (π.map Prod.fst)) (τ3:=tz) (fun o g=>by cases AM.dh H (π.map Prod.fst) o g <;> rfl) (fun _=>rfl)]
   rw [← oG (ρ:=idN) (τ:=tz) (ρ2:=AM.dh H (π.map Prod.fst)) (τ2:=tz) (ρ3:=AM.dh H (π.map Prod.fst)) (τ3:=tz) (fun o g=>rfl) (fun _=>rfl) ob.p]
   rw [h3.p]
   exact oG (fun o g=>h.dh o g) (fun _=>rfl) ob0.p
theorem IY {a b t:Nat} (ha:a = 0∨a = t) (hb:b = 0∨b = t):∃ t',(t' = 0∨t' = t)∧fA a b = some t':=by
 unfold fA
 rcases ha with rfl | rfl
 ·exact ⟨b,hb,by simp⟩
 ·by_cases h0:a = 0
  ·exact ⟨b,hb,by simp [h0]⟩
  ·refine ⟨a,.inr rfl,?_⟩
   rw [if_neg h0,if_pos]
   rcases hb with rfl | rfl
   ·exact .inl rfl
   ·exact .inr rfl
theorem yM {t:Nat}:∀ l:List Nat,(∀ k ∈ l,k = 0∨k = t)→∃ t',dU l = some t'∧(t' = 0∨t' = t)
 | [],_=>⟨0,rfl,.inl rfl⟩
 | k :: r,hl=>by
  obtain ⟨t',h1,h2⟩:=yM r fun x hx=>hl x (List.mem_cons_of_mem _ hx)
  obtain ⟨t3,h3,h4⟩:=IY (hl k (List.mem_cons_self ..)) h2
  exact ⟨t3,by simp [dU,h1,h4],h3⟩
theorem Like.dB {g:Nat} {ob0 ob:Obj} (h:Like t π g ob0 ob):∀ k ∈ AM.dB ob,k = 0∨k = t:=by
 intro k hk
 unfold AM.dB at hk
 split at hk
 ·exact h.tp k hk
 ·rcases List.mem_cons.1 hk with rfl | hk
  ·exact h.tg
  ·split at hk
   ·rename_i l hl
    refine h.tp k ?_
    rw [hl];exact hk
   ·cases hk
theorem lV {t:Nat} {H:Heap}:∀ l:List Nat,(∀ o ∈ l,∀ ob,aZ H o = some ob→∀ k ∈ AM.dB ob,k = 0∨k = t)→∀ k ∈ aA (l.map (aZ H)),k = 0∨k = t
 | [],_,k,hk=>by simp [aA] at hk
 | o :: r,h,k,hk=>by
  rw [List.map_cons] at hk
  cases ho:aZ H o with
  | none =>
   rw [ho,aA] at hk
   exact lV r (fun x hx=>h x (List.mem_cons_of_mem _ hx)) k hk
  | some ob =>
   rw [ho,aA] at hk
   rcases List.mem_append.1 hk with hk | hk
   ·exact h o (List.mem_cons_self ..) ob ho k hk
   ·exact lV r (fun x hx=>h x (List.mem_cons_of_mem _ hx)) k hk
theorem Img.Ll (h:Img t H π S) {k:Nat} (hk:k < S.length):∀ ob,aZ H (sg π k) = some ob→∀ x ∈ AM.dB ob,x = 0∨x = t:=by
 intro ob hob
 obtain ⟨o,g,ob',h1,h2,h3⟩:=h.at' hk
 rw [kD h1] at hob
 have:ob = ob':=by simpa [aZ,h2] using hob.symm
 rw [this]
 exact h3.dB
end
def jO (C:Ctx) (f:Nat) (H:Heap) (π:List (Nat × Nat)) (K i:Nat) (xs ys:List AV):Prop :=
 ∃ as aN,aH C f H i xs = some (as,aN)∧(∀ x ∈ aN,disjoint x.objs (π.map Prod.fst) = true)∧bZ (dh H (π.map Prod.fst)) (fun t=>t) as = ys ∧
  aJ as = (aJ ys).map (sg π)∧(∀ o ∈ aJ ys,o < K)∧as.length = xs.length∧aN.length = xs.length
section
variable {C:Ctx} {f:Nat} {H:Heap} {π:List (Nat × Nat)} {K i:Nat} {xs ys:List AV}
theorem jO.nil:jO C f H π K i [] []:=⟨[],[],rfl,by simp,rfl,rfl,by simp [aJ],rfl,rfl⟩
theorem jO.flat {a:AV} (hrw:C.rw f i = false) (ha:wP a = true) (h:jO C f H π K (i + 1) xs ys):jO C f H π K i (a :: xs) (a :: ys):=by
 obtain ⟨as,aN,h1,h2,h3,h4,h5,h6,h7⟩:=h
 obtain ⟨hi,ht⟩:=IU ha
 refine ⟨a :: as,⟨[],[]⟩ :: aN,dL hrw ha h1,?_,?_,by simp [aJ,hi,h4],by simpa [aJ,hi] using h5,by simp [h6],by simp [h7]⟩
 ·intro x hx
  rcases List.mem_cons.1 hx with rfl | hx
  ·rfl
  ·exact h2 x hx
 ·simp only [bZ,h3]
  rw [jh a hi (fun _ _=>rfl)]
def slO:AV→List Nat
 | .sl o _ _ _=>[o]
 | _=>[]
theorem jO.pay {a p:AV} (hrw:C.rw f i = false) (ha:gq H a = some p) (hi:ids p = []) (hd:disjoint (slO a) (π.map Prod.fst) = true) (h:jO C f H π K (i + 1) xs ys):∃ c,jO C f H π K i (a :: xs) (.ro c p (i + 1) :: ys):=by
 obtain ⟨as,aN,h1,h2,h3,h4,h5,h6,h7⟩:=h
 have key:∃ c x,eU H (i + 1) a = some (.ro c p (i + 1),x)∧x.objs = slO a:=by
  cases a <;> simp only [gq,reduceCtorEq] at ha
  case ro c q t' =>
   simp only [Option.some.injEq] at ha
   subst ha
   exact ⟨c,_,rfl,rfl⟩
  case sl o off len g =>
   split at ha
   ·rename_i ob hl
    split at ha
    ·cases ha
    ·rename_i hb
     exact ⟨if ob.z = 0∧ah ob.p = 0 then 0 else 2,⟨[o],[ob.tg]⟩,by simp [eU,dY,hl,hb,ha],rfl⟩
   ·cases ha
 obtain ⟨c,x,hx,hxo⟩:=key
 refine ⟨c,.ro c p (i + 1) :: as,x :: aN,by simp only [aH,hrw,hx,h1],?_,by simp [bZ,ren,h3],by simp [aJ,ids,h4],by simpa [aJ,ids] using h5,by simp [h6],by simp [h7]⟩
 intro y hy
 rcases List.mem_cons.1 hy with rfl | hy
 ·rw [hxo];exact hd
 ·exact h2 y hy
theorem jO.ptr {t k o a b g:Nat} {S:List Obj} (hI:Img t H π S) (hrw:C.rw f i = false) (hk:π[k]? = some (o,g)) (hK:k < S.length) (h:jO C f H π S.length (i + 1) xs ys):jO C f H π S.length i (.ptr o a b g :: xs) (.ptr k a b 0 :: ys):=by
 obtain ⟨as,aN,h1,h2,h3,h4,h5,h6,h7⟩:=h
 have hin:dh H (π.map Prod.fst) o g = some (k,0):=by
  have:=hI.dh k 0
  unfold jI at this
  rw [hk,zQ,if_pos hK] at this
  simpa using this
 refine ⟨.ptr o a b g :: as,⟨[],[]⟩ :: aN,?_,?_,?_,?_,?_,by simp [h6],by simp [h7]⟩
 ·simp only [aH,hrw]
  simp [eU,dY,tags,h1]
 ·intro x hx
  rcases List.mem_cons.1 hx with rfl | hx
  ·rfl
  ·exact h2 x hx
 ·simp [bZ,ren,hin,h3]
 ·simp [aJ,ids,h4,kD hk]
 ·intro x hx
  simp only [aJ,ids,List.mem_append,List.mem_singleton] at hx
  rcases hx with rfl | hx
  ·exact hK
  ·exact h5 x hx
end
def ru (P:Frame→Heap→Prop) (o:Out):Prop:=(o.ex = .normal∨o.ex = .ret)∧P o.fr o.H
theorem ru.ret {P:Frame→Heap→Prop} {o:Out} (h:jV P o):ru P o:=⟨.inr h.1,h.2⟩
def Leaves (C:Ctx) (rs:List ResultVar) (n:Nat) (S:List Obj) (Q:List Obj→AV→Prop) (fr:Frame) (E:Heap):Prop :=
 ∃ π' S' v0 l,aQ C fr E rs = some l∧aO l = ren (jI π') (fun t=>t) v0∧Img n E π' S'∧OkS S'∧(∀ k ∈ tags v0,k = 0∨k = n)∧(∀ o ∈ ids v0,o < S'.length)∧S.length≤S'.length ∧
  (∀ k:Nat,k < S.length→∃ g,π'[k]? = some (k,g))∧(∀ (k:Nat) (ob ob':Obj),S[k]? = some ob→S'[k]? = some ob'→ob'.row = ob.row) ∧
  (∀ k,S.length≤k→k < S'.length→k ∈ reach (S'.map some) aG (List.range S.length ++ ids v0) [])∧Q S' v0
section
variable {C:Ctx} {T:Cf} {f:Nat} {H:Heap}
theorem Ev1.img (hT:Below C T) {fn:Func} {c:Code} {t n:Nat} {π:List (Nat × Nat)} {S:List Obj} {xs ys:List AV} {Q:List Obj→AV→Prop}
  (hF:C.P.funcs[f]? = some fn) (hb:fn.body = some c) (hI:Img t H π S) (hok:OkS S) (hA:jO C f H π S.length 0 xs ys)
  (hR:reach (S.map some) aG (aJ ys) [] = List.range S.length) (hn:xs.length + 1 = n) (hng:n < bW)
  (run:∀ E,E.length = S.length→Img n E (pi0 S.length) S→aj (ru (Leaves C fn.results.toList n S Q)) C T f S.length c (numbered 0 (coerce C ys (aI C f))) E) :
  ∃ π'' S' v0 H' τf,Ev1 C f xs H (ren (jI π'') τf v0,H')∧(∀ k ∈ tags v0,τf k = 0∨τf k = t)∧Img t H' π'' S'∧OkS S'∧(∀ o ∈ ids v0,o < S'.length)∧Q S' v0∧H.length≤H'.length ∧
   (∀ (k o g:Nat),π[k]? = some (o,g)→∃ g',π''[k]? = some (o,g'))∧(∀ (k o g:Nat),S.length≤k→π''[k]? = some (o,g)→H.length≤o) ∧
   (∀ j,j < H.length→(∀ (k o g:Nat),π[k]? = some (o,g)→j ≠ o)→H'[j]? = H[j]?):=by
 obtain ⟨as,aN,h1,h2,h3,h4,h5,h6,h7⟩:=hA
 have hr1:reach H aG (aJ as) [] = π.map Prod.fst:=by
  have:=(vS hI hok aG (aJ ys) [] h5 (by simp)).1
  rw [List.map_nil] at this
  rw [h4,this,hR,hI.fst]
 have hpl:(π.map Prod.fst).length = S.length:=by rw [List.length_map,hI.len]
 have hE:=hI.into n
 have hEl:((π.map Prod.fst).map fun o=>(aZ H o).map (aU (dh H (π.map Prod.fst)) (fun _=>n) 0)).length = S.length:=by rw [List.length_map,hpl]
 obtain ⟨⟨ex,fr,E⟩,⟨he,π',S',v0,l,r1,r2,r3,r4,r5,r6,r7,r8,r9,r10,r11⟩,hrun⟩:=run _ hEl hE
 simp only at he r1 r3
 have hlt:=hI.lt
 have hnd:=hI.nodup
 -- what is left behind
 have hri:=vS r3 r4 aG (List.range S.length ++ ids v0) [] (fun o ho=>by
  rcases List.mem_append.1 ho with ho | ho
  ·have:=List.mem_range.1 ho;omega
  ·exact r6 o ho) (by simp)
 have ajC:ids (aO l) = (ids v0).map (sg π'):=by rw [r2];exact BI v0 fun o ho=>by rw [r3.len];exact r6 o ho
 have hrange:(List.range S.length).map (sg π') = List.range S.length:=by
  refine List.ext_getElem? fun k=>?_
  rw [List.getElem?_map]
  by_cases hk:k < S.length
  ·obtain ⟨g,hg⟩:=r8 k hk
   rw [List.getElem?_range hk]
   simp [kD hg]
  ·rw [List.getElem?_eq_none (by simpa using hk)];rfl
 generalize hRR:reach (S'.map some) aG (List.range S.length ++ ids v0) [] = R at *
 have hK:reach E aG (List.range (π.map Prod.fst).length ++ ids (aO l)) [] = R.map (sg π'):=by
  rw [hpl,ajC,← hri.1,List.map_append,hrange,List.map_nil]
 obtain ⟨t',hjt,htt⟩:=yM (t:=t) (aA ((π.map Prod.fst).map (aZ H))) (lV _ fun o ho ob hob=>by
  rw [hI.fst] at ho
  obtain ⟨k,hk,rfl⟩:=List.mem_map.1 ho
  exact hI.Ll (List.mem_range.1 hk) ob hob)
 have hal:as.length + 1 = n:=by omega
 have hn0:0 < n:=by omega
 -- new objects
 generalize hnew:(R.map (sg π')).filter (fun o=>decide ((π.map Prod.fst).length≤o)) = new
 have Q8:∀ k,S.length≤k→k < S'.length→sg π' k ∈ new∧S.length≤sg π' k:=by
  intro k hk hk2
  have hge:S.length≤sg π' k:=by
   refine Classical.byContradiction fun hc=>?_
   have hc:sg π' k < S.length:=by omega
   obtain ⟨g,hg⟩:=r8 _ hc
   obtain ⟨o,g2,_,h8,_⟩:=r3.at' hk2
   have e:=kD h8
   rw [e] at hg hc
   have:=r3.nd k o _ _ _ _ h8 hg rfl
   omega
  refine ⟨?_,hge⟩
  rw [← hnew,List.mem_filter]
  exact ⟨List.mem_map.2 ⟨k,r10 k hk hk2,rfl⟩,by simpa [hI.len] using hge⟩
 have hmem:∀ k,k < S'.length→sg π' k < (π.map Prod.fst).length∨((π.map Prod.fst).length≤sg π' k∧sg π' k ∈ new):=by
  intro k hk
  rw [hpl]
  by_cases hk2:k < S.length
  ·obtain ⟨g,hg⟩:=r8 k hk2
   rw [kD hg];exact .inl hk2
  ·obtain ⟨q1,q2⟩:=Q8 k (by omega) hk
   exact .inr ⟨q2,q1⟩
 have hbt:∀ k,k = 0∨k = n→dQ (aN ++ [⟨[],aA ((π.map Prod.fst).map (aZ H))⟩]) k = some (bk n t' k):=by
  rintro k (rfl | rfl)
  ·unfold dQ bk
   rw [if_pos rfl,if_neg (by omega)]
  ·unfold dQ bk
   rw [if_neg (by omega),if_pos rfl]
   rw [List.getElem?_append_right (by omega),show k - 1 - aN.length = 0 by omega]
   simp only [List.getElem?_cons_zero]
   exact hjt
 have hgo:∀ k,k = 0∨k = n→dG (aN ++ [⟨[],aA ((π.map Prod.fst).map (aZ H))⟩]) k = []:=by
  rintro k (rfl | rfl)
  ·rfl
  ·unfold dG
   rw [if_neg (by omega)]
   rw [List.getElem?_append_right (by omega),show k - 1 - aN.length = 0 by omega]
   rfl
 generalize hL:(aN ++ [⟨[],aA ((π.map Prod.fst).map (aZ H))⟩]:List dZ) = L at hbt hgo
 have hbT:∀ k,k = 0∨k = n→dF L k = bk n t' k:=fun k hk=>by unfold dF;rw [hbt k hk];rfl
 have hb0:dF L 0 = 0:=by rw [hbT 0 (.inl rfl)];unfold bk;rw [if_neg (by omega)]
 have Xl:∀ k,k = 0∨k = n→dF L k = 0∨dF L k = t:=by
  intro k hk
  rw [hbT k hk]
  unfold bk
  split
  ·exact htt
  ·exact .inl rfl
 have htv:∀ k ∈ tags (aO l),k = 0∨k = n:=by
  intro k hk
  rw [r2,jW] at hk
  simp only [List.map_id'] at hk
  exact r5 k hk
 have hus:∀ x ∈ tags (aO l) ++ aA ((List.range (π.map Prod.fst).length).map (aZ E)) ++ aA (new.map (aZ E)),x = 0∨x = n:=by
  intro x hx
  rcases List.mem_append.1 hx with hx | hx
  ·rcases List.mem_append.1 hx with hx | hx
   ·exact htv x hx
   ·refine lV _ ?_ x hx
    intro o ho ob hob
    have ho:=List.mem_range.1 ho
    rw [hpl] at ho
    obtain ⟨g,hg⟩:=r8 o ho
    have:=r3.Ll (k:=o) (by omega) ob
    rw [kD hg] at this
    exact this hob
  ·refine lV _ ?_ x hx
   intro o ho ob hob
   rw [← hnew,List.mem_filter] at ho
   obtain ⟨k,hk,rfl⟩:=List.mem_map.1 ho.1
   exact r3.Ll (hri.2 k hk) ob hob
 -- back
 have hback:∀ (k:Nat) (ob0:Obj),S'[k]? = some ob0→∃ o' g' ob' o'' g'',π'[k]? = some (o',g')∧E[o']? = some (some ob')∧Like n π' g' ob0 ob'∧cu H (π.map Prod.fst) new E o' g' = some (o'',g'') ∧
   (dw (cu H (π.map Prod.fst) new E) (dF L) H (π.map Prod.fst) E 0 (π.map Prod.fst) H ++ new.map fun o=>(aZ E o).map (aU (cu H (π.map Prod.fst) new E) (dF L) 0))[o'']? = some (some (aU (cu H (π.map Prod.fst) new E) (dF L) g'' ob')) ∧
   At H (π.map Prod.fst) new o' o''∧(o' < (π.map Prod.fst).length→g'' = fJ H (π.map Prod.fst) o' ob'.g):=by
  intro k ob0 hk
  obtain ⟨o',g',ob',q1,q2,q3⟩:=r3.ob k ob0 hk
  have hkl:=(List.getElem?_eq_some_iff.1 hk).1
  have hm:=hmem k hkl
  rw [kD q1] at hm
  obtain ⟨o'',g'',e1,e2,e3,e4⟩:=Q5 (τ:=dF L) (new:=new) hnd hlt (show aZ E o' = some ob' by simp [aZ,q2]) hm
  rw [q3.gen] at e1
  exact ⟨o',g',ob',o'',g'',q1,q2,q3,e1,e2,e3,e4⟩
 generalize hH':dw (cu H (π.map Prod.fst) new E) (dF L) H (π.map Prod.fst) E 0 (π.map Prod.fst) H ++ (new.map fun o=>(aZ E o).map (aU (cu H (π.map Prod.fst) new E) (dF L) 0)) = H' at hback
 have Ec:∀ k g0,(jI π' k g0).bind (fun x=>cu H (π.map Prod.fst) new E x.1 x.2) = jI (π'.map fun x=>(cu H (π.map Prod.fst) new E x.1 x.2).getD (0,0)) k g0:=by
  intro k g0
  unfold jI
  rw [List.getElem?_map]
  by_cases hk:k < S'.length
  ·obtain ⟨o',g',ob',o'',g'',q1,_,_,q4,_⟩:=hback k _ (List.getElem?_eq_getElem hk)
   rw [q1]
   simp [q4]
  ·rw [List.getElem?_eq_none (by rw [r3.len];omega)];rfl
 have hat:∀ k o g,(π'.map fun x=>(cu H (π.map Prod.fst) new E x.1 x.2).getD (0,0))[k]? = some (o,g)→k < S'.length∧∃ o' g',π'[k]? = some (o',g')∧cu H (π.map Prod.fst) new E o' g' = some (o,g)∧At H (π.map Prod.fst) new o' o:=by
  intro k o g hk
  rw [List.getElem?_map] at hk
  have hkl:k < S'.length:=by
   refine Classical.byContradiction fun hc=>?_
   rw [List.getElem?_eq_none (by rw [r3.len];omega)] at hk
   cases hk
  obtain ⟨o',g',ob',o'',g'',q1,_,_,q4,_,q6,_⟩:=hback k _ (List.getElem?_eq_getElem hkl)
  rw [q1] at hk
  simp only [Option.map_some,q4,Option.getD_some,Option.some.injEq,Prod.mk.injEq] at hk
  obtain ⟨rfl,rfl⟩:=hk
  exact ⟨hkl,o',g',q1,q4,q6⟩
 refine ⟨π'.map fun x=>(cu H (π.map Prod.fst) new E x.1 x.2).getD (0,0),S',v0,H',dF L,?_,fun k hk=>Xl k (r5 k hk),?_,r4,r6,r11,?_,?_,?_,?_⟩
 ·refine Ev1.of (out:=⟨ex,fr,E⟩) (l:=l) hT hF hb h1 ?_ ?_ he r1 ?_
  ·rw [hr1]
   simp only [Bool.and_eq_true,decide_eq_true_eq]
   exact ⟨List.all_eq_true.2 h2,by omega⟩
  ·rw [hr1,h3,hal,hpl]
   exact hrun
  ·rw [hr1]
   unfold wrap
   simp only [hK,hnew,hL]
   rw [if_pos (List.all_eq_true.2 fun k hk=>by rw [hbt k (hus k hk)];rfl)]
   rw [show (tags (aO l) ++ aA ((List.range (π.map Prod.fst).length).map (aZ E)) ++ aA (new.map (aZ E))).flatMap (dG L) = [] from List.flatMap_eq_nil_iff.2 fun k hk=>hgo k (hus k hk)]
   simp only [List.filter_nil,strike,hH',Option.some.injEq,Prod.mk.injEq,and_true]
   rw [r2,oG (ρ3:=jI (π'.map fun x=>(cu H (π.map Prod.fst) new E x.1 x.2).getD (0,0))) (τ3:=dF L) Ec (fun _=>rfl)]
 ·refine ⟨by rw [List.length_map,r3.len],?_,?_⟩
  ·intro j k oj gj ok gk e1 e2 e
   obtain ⟨hj,o1,g1,p1,p2,p3⟩:=hat j oj gj e1
   obtain ⟨hk,o2,g2,p4,p5,p6⟩:=hat k ok gk e2
   refine Classical.byContradiction fun hne=>?_
   have ho:o1 ≠ o2:=fun e=>hne (r3.nd j k _ _ _ _ p1 p4 e)
   exact At.inj hnd hlt p3 p6 ho e
  ·intro k ob0 hk
   obtain ⟨o',g',ob',o'',g'',q1,q2,q3,q4,q5,q6,q7⟩:=hback k ob0 hk
   refine ⟨o'',g'',aU (cu H (π.map Prod.fst) new E) (dF L) g'' ob',by rw [List.getElem?_map,q1];simp [q4],q5,⟨?_,rfl,q3.row,q3.ids,?_,?_,?_⟩⟩
   ·simp only [aU]
    rw [oG (ρ:=cu H (π.map Prod.fst) new E) (ρ2:=idN) (τ:=dF L) (τ2:=tz) (ρ3:=cu H (π.map Prod.fst) new E) (τ3:=tz) (fun o g=>by cases cu H (π.map Prod.fst) new E o g <;> rfl) (fun _=>rfl)]
    rw [← oG (ρ:=idN) (τ:=tz) (ρ2:=cu H (π.map Prod.fst) new E) (τ2:=tz) (ρ3:=cu H (π.map Prod.fst) new E) (τ3:=tz) (fun o g=>rfl) (fun _=>rfl) ob'.p]
    rw [q3.p]
    exact oG Ec (fun _=>rfl) ob0.p
   ·intro hr
    obtain ⟨b1,b2,b3⟩:=q3.bx hr
    refine ⟨b1,b2,?_⟩
    by_cases hkS:k < S.length
    ·obtain ⟨g,hg⟩:=r8 k hkS
     rw [q1] at hg
     simp only [Option.some.injEq,Prod.mk.injEq] at hg
     obtain ⟨rfl,rfl⟩:=hg
     obtain ⟨o0,g0,ob1,s1,s2,s3⟩:=hI.at' hkS
     have hrow:=r9 o' _ _ (List.getElem?_eq_getElem hkS) hk
     have hg0:=(s3.bx (by rw [← hrow];exact hr)).2.2
     rw [q7 (by rw [hpl];exact hkS)]
     unfold fJ
     rw [Img.qJ s1]
     have:aZ H o0 = some ob1:=by simp [aZ,s2]
     simp only [this,s3.gen,hg0,q3.gen,b3,if_true]
    ·have:=(Q8 k (by omega) (List.getElem?_eq_some_iff.1 hk).1).2
     rw [kD q1] at this
     unfold cu at q4
     split at q4
     ·rw [hpl,if_neg (by omega)] at q4
      cases hx:idxOf new o' H.length with
      | none=>rw [hx] at q4;cases q4
      | some x=>rw [hx] at q4;simp at q4;exact q4.2.symm
     ·cases q4
   ·exact Xl _ q3.tg
   ·intro x hx
    simp only [aU] at hx
    rw [jW] at hx
    obtain ⟨y,hy,rfl⟩:=List.mem_map.1 hx
    exact Xl y (q3.tp y hy)
 ·rw [← hH',List.length_append,ji];omega
 ·intro k o g hk
  have hkS:k < S.length:=by
   rw [← hI.len]
   exact (List.getElem?_eq_some_iff.1 hk).1
  obtain ⟨o',g',ob',o'',g'',q1,q2,q3,q4,q5,q6,q7⟩:=hback k _ (List.getElem?_eq_getElem (show k < S'.length by omega))
  refine ⟨g'',?_⟩
  rw [List.getElem?_map,q1]
  obtain ⟨g2,hg2⟩:=r8 k hkS
  rw [q1] at hg2
  simp only [Option.some.injEq,Prod.mk.injEq] at hg2
  obtain ⟨rfl,rfl⟩:=hg2
  simp only [Option.map_some,q4,Option.getD_some,Option.some.injEq,Prod.mk.injEq,and_true]
  rcases q6 with ⟨_,h8⟩ | ⟨h8,_⟩
  ·rw [Img.qJ hk] at h8
   exact (Option.some.inj h8).symm
  ·rw [hpl] at h8;omega
 ·intro k o g hk ho
  obtain ⟨hkl,o',g',p1,p2,p3⟩:=hat k o g ho
  have:=(Q8 k hk hkl).2
  rw [kD p1] at this
  rcases p3 with ⟨h8,_⟩ | ⟨_,i,_,h8⟩
  ·rw [hpl] at h8;omega
  ·omega
 ·intro j hj hjn
  rw [← hH']
  refine Q7 hj ?_
  intro hm
  obtain ⟨x,hx,hx2⟩:=List.mem_map.1 hm
  obtain ⟨k,hk,hk2⟩:=List.mem_iff_getElem.1 hx
  exact hjn k x.1 x.2 (by rw [List.getElem?_eq_getElem hk,hk2]) hx2.symm
end
end Go.AM
namespace Go.AM
theorem eY {α:Type} {H:List α} {j:Nat} {y:α} (h:H[j]? = some y):j < H.length:=(List.getElem?_eq_some_iff.1 h).1
theorem setAt {α:Type} {H:List α} {j:Nat} {y x:α} (h:H[j]? = some y):(H.set j x)[j]? = some x:=by
 rw [List.getElem?_set_self (eY h)]
theorem zF {α:Type} {H:List α} {j k:Nat} {y x:α} (h:H[j]? = some y) (hne:k ≠ j):(H.set k x)[j]? = some y:=by
 rw [List.getElem?_set_ne hne];exact h
section
variable {x p:AV}
theorem Ux {o i f g:Nat} (h:ren idN tz x = .ptr o i f g):x = .ptr o i f g:=by
 cases x <;> simp only [ren,idN,reduceCtorEq] at h <;> exact h
theorem CS {o i f g:Nat} (h:ren idN tz x = .sl o i f g):x = .sl o i f g:=by
 cases x <;> simp only [ren,idN,reduceCtorEq] at h <;> exact h
theorem Uy {o g:Nat} (h:ren idN tz x = .map o g):x = .map o g:=by
 cases x <;> simp only [ren,idN,reduceCtorEq] at h <;> exact h
theorem ql {k:IntKind} {n:Int} (h:ren idN tz x = .int k n):x = .int k n:=by
 cases x <;> simp only [ren,idN,reduceCtorEq] at h <;> exact h
theorem GH {l:List UInt8} (h:ren idN tz x = .pb l):x = .pb l:=by
 cases x <;> simp only [ren,idN,reduceCtorEq] at h <;> exact h
theorem Xm {k:IntKind} {l:List Int} (h:ren idN tz x = .pi k l):x = .pi k l:=by
 cases x <;> simp only [ren,idN,reduceCtorEq] at h <;> exact h
theorem xJ {c t:Nat} (h:ren idN tz x = .ro c p t):∃ τ,x = .ro c p τ:=by
 cases x <;> simp only [ren,idN,reduceCtorEq,AV.ro.injEq] at h
 obtain ⟨rfl,rfl,_⟩:=h
 exact ⟨_,rfl⟩
theorem xK {l:List AV} (h:ren idN tz x = .pc l):∃ l',x = .pc l'∧bZ idN tz l' = l:=by
 cases x <;> simp only [ren,idN,reduceCtorEq,AV.pc.injEq] at h
 exact ⟨_,rfl,h⟩
theorem Xn {l:List AV} (h:ren idN tz x = .pm l):∃ l',x = .pm l'∧bZ idN tz l' = l:=by
 cases x <;> simp only [ren,idN,reduceCtorEq,AV.pm.injEq] at h
 exact ⟨_,rfl,h⟩
theorem gu {a:AV} {l r:List AV} (h:bZ idN tz l = a :: r):∃ x l',l = x :: l'∧ren idN tz x = a∧bZ idN tz l' = r:=by
 cases l with
 | nil=>simp [bZ] at h
 | cons x l' =>
  simp only [bZ,List.cons.injEq] at h
  exact ⟨x,l',rfl,h.1,h.2⟩
theorem oH {l:List AV} (h:bZ idN tz l = []):l = []:=by
 cases l with
 | nil=>rfl
 | cons x l'=>simp [bZ] at h
end
section
variable {C:Ctx} {f:Nat} {H:Heap} {π:List (Nat × Nat)} {K i:Nat} {xs ys:List AV}
end
theorem Leaves.plain {C:Ctx} {rs:List ResultVar} {n:Nat} {S S':List Obj} {Q:List Obj→AV→Prop} {fr:Frame} {E:Heap} {π':List (Nat × Nat)} {l:List AV}
  (hr:aQ C fr E rs = some l) (hi:aJ l = []) (ht:bQ l = []) (hnt:fU l = true) (hI:Img n E π' S') (hok:OkS S') (hl:S.length≤S'.length)
  (hf:∀ k:Nat,k < S.length→∃ g,π'[k]? = some (k,g)) (hrow:∀ (k:Nat) (ob ob':Obj),S[k]? = some ob→S'[k]? = some ob'→ob'.row = ob.row)
  (hR:∀ k,S.length≤k→k < S'.length→k ∈ reach (S'.map some) aG (List.range S.length) []) (hq:Q S' (aO l)):Leaves C rs n S Q fr E:=by
 have h1:ids (aO l) = []:=by rw [lq hnt];exact hi
 have h2:tags (aO l) = []:=by rw [jS hnt];exact ht
 exact ⟨π',S',aO l,l,hr,(jh _ h1 (fun _ _=>rfl)).symm,hI,hok,(by simp [h2]),by simp [h1],hl,hf,hrow,fun k a b=>by rw [h1,List.append_nil];exact hR k a b,hq⟩
end Go.AM
