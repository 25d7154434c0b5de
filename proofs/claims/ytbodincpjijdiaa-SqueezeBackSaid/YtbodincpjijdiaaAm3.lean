/- The abstract machine, part 3: a deterministic evaluator for the program's code and the proof that what it tells is so. Conditions: none beyond the theorems' own. -/
import Derived.Attr
import Derived.ChangeCalls
import Derived.LaidHandle
import Derived.LaidLaws
import Derived.Lib.LaidTab
import Derived.MakeChecks
import Derived.ProofKit
import Derived.Stop.Joined
import Derived.Test.YtbodincpjijdiaaAm2
set_option linter.unusedSimpArgs false
set_option linter.unusedVariables false
set_option maxRecDepth 100000
set_option maxHeartbeats 8000000
namespace Go.AM
def KX:Ex→Exit
 | .normal=>.normal
 | .exit id=>.exit id
 | .ret=>.ret
def Left (C:Ctx) (T:Nat→Nat→Prop) (m:Nat) (K0:Kx) (nt:Nat) (out:Out) (e:Exit) (a:Act) (w:World):Prop :=
 e = KX out.ex∧Now C T m K0 nt out.fr out.H a w
theorem least {J:Nat→Prop} (h:∃ k,J k):∃ k,J k∧∀ j,J j→k≤j:=by
 obtain ⟨k,hk⟩:=h
 induction k using Nat.strongRecOn with
 | _ k ih =>
  by_cases hx:∃ j,j < k∧J j
  ·obtain ⟨j,h1,h2⟩:=hx
   exact ih j h1 h2
  ·exact ⟨k,hk,fun j hj=>Nat.le_of_not_lt fun h=>hx ⟨j,h,hj⟩⟩
open Classical in
noncomputable def Jz (J:Act→World→Nat→Prop) (a:Act) (w:World):Nat :=
 if h:∃ k,J a w k then Classical.choose (least h) else 0
theorem Dc {J:Act→World→Nat→Prop} {a:Act} {w:World} (h:∃ k,J a w k):J a w (Jz J a w)∧∀ j,J a w j→Jz J a w≤j:=by
 unfold Jz
 rw [dif_pos h]
 exact Classical.choose_spec (least h)
theorem JA {P:Program} {Q:Exit→Act→World→Prop} {c:Code} {a:Act} {w:World} (J:Act→World→Nat→Prop) (n:Nat) (h0:J a w n)
  (round:∀ a w n,J a w n→c.wp P (Exit.then (fun a' w'=>∃ k,k < n∧J a' w' k) Q) a w):(Code.loop c).wp P Q a w:=by
 refine wp_loop (fun a w=>∃ k,J a w k) (Jz J) ⟨n,h0⟩ fun a w h=>?_
 obtain ⟨h1,h2⟩:=Dc h
 refine wp_mono (round a w _ h1) fun e a' w' hq=>?_
 cases e <;> simp only [Exit.then] at hq ⊢ <;> try exact hq
 obtain ⟨k,h3,h4⟩:=hq
 exact ⟨⟨k,h4⟩,Nat.lt_of_le_of_lt ((Dc ⟨k,h4⟩).2 k h4) h3⟩
section
variable {C:Ctx} {T:Nat→Nat→Prop} {m nt:Nat} {K0:Kx}
theorem oQ {cf:Cf} (hcf:BH C cf) (hct:mW C cf) {f n:Nat} (uh:C.P.follows .mixedOrders = true):(c:Code)→jE C f c = true→∀ {fr:Frame} {H:Heap} {a:Act} {w:World} {out:Out},
  exec C cf f m n c fr H = some out→Now C T m K0 (fE C f) fr H a w→c.wp C.P (Left C T m K0 (fE C f) out) a w
 | .skip,_,fr,H,a,w,out,h,hN=>by
  simp only [exec,atA] at h
  subst h
  exact wp_skip ⟨rfl,hN⟩
 | .region id ops draw,hdr,fr,H,a,w,out,h,hN=>by
  simp only [exec] at h
  have hQ:∀ fr' H',out = iY C f m id fr' H'→∀ a' w',Now C T m K0 (fE C f) fr' H' a' w'→Left C T m K0 (fE C f) out .normal a' w':=fun fr' H' e a' w' hN'=>by
   subst e
   obtain ⟨h1,h2⟩:=hN'.after f id
   exact ⟨by rw [h1];rfl,h2⟩
  split at h
  ·rename_i hdy
   simp only [atS] at hdy
   obtain ⟨rfl,hdy⟩:=hdy
   simp only [jE,av2,hdy,if_true,Bool.false_or] at hdr
   split at h
   ·rename_i fr' H' ms hr
    split at h
    ·rename_i hok
     simp only [atA] at h
     rcases auP _ _ ▸ hok with hok | hok
     ·exact WG hcf hct uh hdr hr hok hN (hQ fr' H' h.symm)
     ·simp only [atS] at hok
      exact SG hcf hct uh hdr hok.1 hok.2 hr hN (hQ fr' H' h.symm)
    ·cases h
   ·cases h
  ·rename_i aoi
   split at h
   ·cases h
   ·rename_i hd
    split at h
    ·rename_i fr' H' hr
     simp only [atA] at h
     cases draw with
     | true =>
      have hid:C.dr f id = true:=by simpa using hd
      have hdy:C.dy f id = false:=by simpa using aoi
      simp only [jE,hid,hdy,av2,Bool.false_or,atO,if_false] at hdr
      exact Y9 hcf hct uh hdr hr hN (hQ fr' H' h.symm)
     | false =>
      refine wp_region ?_
      have:=BI hcf (Q:=Left C T m K0 (fE C f) out) ops.toList 0 rfl hr hN (hQ fr' H' h.symm)
      rwa [avM,← List.range_eq_range'] at this
    ·cases h
 | .seq x y,hdr,fr,H,a,w,out,h,hN=>by
  simp only [jE,atS] at hdr
  obtain ⟨hd1,hd2⟩:=hdr
  simp only [exec] at h
  split at h
  ·rename_i fr' H' hx
   refine wp_seq (wp_mono (oQ hcf hct uh x hd1 hx hN) fun e a' w' hl=>?_)
   obtain ⟨rfl,hN'⟩:=hl
   exact oQ hcf hct uh y hd2 h hN'
  ·rename_i hne
   refine wp_seq (wp_mono (oQ hcf hct uh x hd1 h hN) fun e a' w' hl=>?_)
   obtain ⟨rfl,hN'⟩:=hl
   cases hx:out.ex with
   | normal =>
    obtain ⟨ex,fr',H'⟩:=out
    simp only at hx
    subst hx
    exact absurd h (hne _ _)
   | exit id=>simp only [KX,Exit.then];exact ⟨by rw [hx];rfl,hN'⟩
   | ret=>simp only [KX,Exit.then];exact ⟨by rw [hx];rfl,hN'⟩
 | .cond c x y,hdr,fr,H,a,w,out,h,hN=>by
  simp only [jE,atS] at hdr
  obtain ⟨hd1,hd2⟩:=hdr
  simp only [exec] at h
  split at h
  ·rename_i d hd
   have hc:a.eval c = .bool d:=by
    obtain ⟨μ,hI,_,hf,_⟩:=hN
    have:=xG hI hf c
    rw [hd] at this
    simpa [aA,aH,aQ,RV] using this
   refine wp_cond hc ?_
   cases d with
   | true=>exact oQ hcf hct uh x hd1 h hN
   | false=>exact oQ hcf hct uh y hd2 h hN
  ·cases h
 | .block id c,hdr,fr,H,a,w,out,h,hN=>by
  simp only [jE] at hdr
  simp only [exec] at h
  split at h
  ·rename_i id' fr' H' hx
   refine wp_block (wp_mono (oQ hcf hct uh c hdr hx hN) fun e a' w' hl=>?_)
   obtain ⟨rfl,hN'⟩:=hl
   simp only [KX,Exit.inBlock]
   split at h
   ·rename_i he
    simp only [atA] at h
    subst h
    rw [if_pos he]
    exact ⟨rfl,hN'⟩
   ·rename_i he
    simp only [atA] at h
    subst h
    rw [if_neg he]
    exact ⟨rfl,hN'⟩
  ·rename_i hne
   refine wp_block (wp_mono (oQ hcf hct uh c hdr h hN) fun e a' w' hl=>?_)
   obtain ⟨rfl,hN'⟩:=hl
   cases hx:out.ex with
   | normal=>simp only [KX,Exit.inBlock];exact ⟨by rw [hx];rfl,hN'⟩
   | exit id =>
    obtain ⟨ex,fr',H'⟩:=out
    simp only at hx
    subst hx
    exact absurd h (hne _ _ _)
   | ret=>simp only [KX,Exit.inBlock];exact ⟨by rw [hx];rfl,hN'⟩
 | .loop c,hdr,fr,H,a,w,out,h,hN=>by
  simp only [jE] at hdr
  simp only [exec] at h
  refine JA (fun a w k=>∃ fr H,pR (exec C cf f m n c) k fr H = some out∧Now C T m K0 (fE C f) fr H a w) n ⟨fr,H,h,hN⟩ ?_
  rintro a w k ⟨fr,H,hk,hN⟩
  cases k with
  | zero=>simp [pR] at hk
  | succ k =>
   simp only [pR] at hk
   split at hk
   ·rename_i fr' H' hx
    refine wp_mono (oQ hcf hct uh c hdr hx hN) fun e a' w' hl=>?_
    obtain ⟨rfl,hN'⟩:=hl
    exact ⟨k,Nat.lt_succ_self k,fr',H',hk,hN'⟩
   ·rename_i hne
    refine wp_mono (oQ hcf hct uh c hdr hk hN) fun e a' w' hl=>?_
    obtain ⟨rfl,hN'⟩:=hl
    cases hx:out.ex with
    | normal =>
     obtain ⟨ex,fr',H'⟩:=out
     simp only at hx
     subst hx
     exact absurd hk (hne _ _)
    | exit id=>simp only [KX,Exit.then];exact ⟨by rw [hx];rfl,hN'⟩
    | ret=>simp only [KX,Exit.then];exact ⟨by rw [hx];rfl,hN'⟩
 | .exit id,_,fr,H,a,w,out,h,hN=>by
  simp only [exec,atA] at h
  subst h
  exact wp_exit ⟨rfl,hN⟩
 | .ret,_,fr,H,a,w,out,h,hN=>by
  simp only [exec,atA] at h
  subst h
  exact wp_ret ⟨rfl,hN⟩
 | .scope ..,_,fr,H,a,w,out,h,hN=>by simp [exec] at h
 | .label ..,_,fr,H,a,w,out,h,hN=>by simp [exec] at h
 | .goto ..,_,fr,H,a,w,out,h,hN=>by simp [exec] at h
 | .refuse ..,_,fr,H,a,w,out,h,hN=>by simp [exec] at h
 | .rangeFunc ..,_,fr,H,a,w,out,h,hN=>by simp [exec] at h
end
structure Hw (C:Ctx):Prop where
 mix:C.P.follows .mixedOrders = true
 draws:∀ f fn c,C.P.funcs[f]? = some fn→fn.body = some c→jE C f c = true
section
variable {C:Ctx} {T:Nat→Nat→Prop} {K:Kx}
theorem SH (hI:Inv C K T) {t:TypeId} {a x:AV} {v:Value} (hv:aA K T a v) (h:vF C K.H t a = some x) :
  ∃ u,(do loadVar t (← asAddr v):Sem Value).run C.P K.w = .ok u K.w∧aA K T x u:=by
 obtain ⟨u,h1,h2⟩:=KY hI hv h
 refine ⟨u,?_,h2⟩
 have:∃ ad,v = .pointer (some ad):=by
  unfold vF at h
  split at h
  ·cases h
  ·split at h
   ·rename_i o i f g
    cases hl:live K.H o g with
    | none=>rw [hl] at h;cases h
    | some ob =>
     simp only [aA,aH,aQ] at hv
     obtain ⟨h3,h4⟩:=bQ.1 hl
     exact ⟨_,((hv.2.2 ob h3).2 h4).2⟩
   ·simp only [aA,aH] at hv
    obtain ⟨b,off,h3,_⟩:=hv
    exact ⟨_,h3⟩
   ·cases h
 obtain ⟨ad,rfl⟩:=this
 simp only [Instr.loadAt,Instr.sureAddr,Sem.run_bind,Sem.run_pure,Result.andThen_ok] at h1
 simp only [asAddr,Sem.run_bind,Sem.run_pure,Result.andThen_ok]
 exact h1
def JB (tmps:Array Value):ResultVar→Sem Value
 | .tmp t=>pure (tmps.getD t undef)
 | .cell a t=>do loadVar t (← asAddr (tmps.getD a undef))
theorem wo (hI:Inv C K T) {fr:Frame} {tmps:Array Value} (hf:qF K T fr tmps):∀ {rs:List ResultVar} {l:List AV},aP C fr K.H rs = some l →
  ∃ us,(rs.mapM (JB tmps)).run C.P K.w = .ok us K.w∧eU K T l us
 | [],l,h=>by
  simp only [aP,atA] at h
  subst h
  exact ⟨[],by simp [Sem.run_pure],trivial⟩
 | .tmp t :: r,l,h=>by
  simp only [aP] at h
  cases hr:aP C fr K.H r with
  | none=>rw [hr] at h;cases h
  | some l' =>
   rw [hr] at h
   simp only [atF,atA] at h
   subst h
   obtain ⟨us,h1,h2⟩:=wo hI hf hr
   exact ⟨tmps.getD t undef :: us,by simp only [List.mapM_cons,JB,Sem.run_bind,Sem.run_pure,Result.andThen_ok,h1],hf t,h2⟩
 | .cell a t :: r,l,h=>by
  simp only [aP] at h
  split at h
  ·rename_i x l' hx hr
   simp only [atA] at h
   subst h
   obtain ⟨us,h1,h2⟩:=wo hI hf hr
   obtain ⟨u,h3,h4⟩:=SH hI (hf a) hx
   refine ⟨u :: us,?_,h4,h2⟩
   simp only [List.mapM_cons,JB]
   rw [Sem.run_bind,h3]
   simp only [Result.andThen_ok,Sem.run_bind,h1,Sem.run_pure]
  ·cases h
theorem H8:∀ {l:List AV} {us:List Value},dP l = true→eU K T l us→us.length = l.length∧∀ (j:Nat) (a:AV),l[j]? = some a→∃ u,us[j]? = some u∧aH K T a u
 | [],us,_,h=>by rw [h.nil];simp
 | a :: r,us,hn,h=>by
  obtain ⟨v,s,rfl,h1,h2⟩:=h.cons
  have ha:aH K T a v∧dP r = true:=by cases a <;> first | exact ⟨h1,hn⟩ | (simp [dP] at hn;done)
  obtain ⟨h3,h4⟩:=H8 ha.2 h2
  refine ⟨by simp [h3],fun j b hb=>?_⟩
  cases j with
  | zero =>
   simp only [aud,atA] at hb
   subst hb
   exact ⟨v,rfl,ha.1⟩
  | succ j=>exact h4 j b hb
theorem eU.len:∀ {l:List AV} {us:List Value},eU K T l us→us.length = l.length
 | [],us,h=>by simp [h.nil]
 | a :: r,us,h=>by
  obtain ⟨v,s,rfl,h1,h2⟩:=h.cons
  simp [h2.len]
theorem OC (hI:Inv C K T) {fr:Frame} {tmps:Array Value} (hf:qF K T fr tmps) {fn:Func} {l:List AV} (h:aP C fr K.H fn.results.toList = some l) :
  ∃ v,(results fn tmps).run C.P K.w = .ok v K.w∧aA K T (aN l) v:=by
 obtain ⟨us,h1,h2⟩:=wo hI hf h
 have hlen:=h2.len
 refine ⟨if h:us.toArray.size = 1 then us.toArray[0] else .tuple us.toArray,?_,?_⟩
 ·have:results fn tmps = (do let vs ← fn.results.mapM (JB tmps);pure (if h:vs.size = 1 then vs[0] else .tuple vs)):=rfl
  rw [this,Array.mapM_eq_mapM_toList]
  simp only [Sem.run_bind,map_eq_pure_bind,h1,Result.andThen_ok,Sem.run_pure]
 ·split
  ·rename_i hs
   simp only [au9] at hs
   rw [hs] at hlen
   cases l with
   | nil=>simp at hlen
   | cons a r =>
    cases r with
    | nil =>
     obtain ⟨v,s,rfl,h3,h4⟩:=h2.cons
     exact h3
    | cons=>simp at hlen
  ·rename_i hs
   simp only [au9] at hs
   have:aN l = if dP l then .tup l else .top:=by
    cases l with
    | nil=>rfl
    | cons a r =>
     cases r with
     | nil=>simp at hlen;exact absurd hlen hs
     | cons=>rfl
   rw [this]
   split
   ·rename_i hn
    obtain ⟨h3,h4⟩:=H8 hn h2
    simp only [aA]
    exact ⟨us.toArray,rfl,by simpa using h3,fun j a ha=>by obtain ⟨u,h5,h6⟩:=h4 j a ha;exact ⟨u,by simpa using h5,h6⟩⟩
   ·exact aA.top _ _ _
theorem zS:∀ {l:List AV} {us:List Value} {k:Nat},eU K T l us→∀ i,(k≤i∧i < k + us.length∧∃ u,us[i - k]? = some u∧aA K T (ay (numbered k l) i) u)∨ay (numbered k l) i = .top
 | [],us,k,_,i=>.inr rfl
 | a :: r,us,k,h,i=>by
  obtain ⟨v,s,rfl,h1,h2⟩:=h.cons
  simp only [numbered,ay]
  split
  ·rename_i hk
   subst hk
   left
   refine ⟨atG _,by simp,v,by simp,h1⟩
  ·rcases zS (k:=k + 1) h2 i with ⟨h3,h4,u,h5,h6⟩ | h3
   ·left
    simp only [atV]
    refine ⟨by omega,by omega,u,?_,h6⟩
    rw [show i - k = (i - (k + 1)) + 1 by omega]
    simpa using h5
   ·exact .inr h3
theorem OD (hC:Hw C) {cf:Cf} (hcf:BH C cf) (hct:mW C cf) (n:Nat):BH C (lu C cf n):=by
 intro f args H x H' h K T vs hK hI ha
 subst hK
 unfold lu at h
 split at h
 ·cases h
 ·rename_i fn hF
  split at h
  ·cases h
  ·rename_i c hc
   refine calls_of_wp hF hc ?_
   have hN:Now C T K.H.length K (fE C f) (numbered 0 args) K.H { tmps:=vs ++ Array.replicate (fn.ntmps - vs.size) undef,defers:=[] } K.w:=by
    refine ⟨K.μ,hI,Evo.refl T K (atG _),fun i=>?_,?_,rfl⟩
    ·rcases zS (k:=0) ha i with ⟨_,h2,u,h3,h4⟩ | h1
     ·rw [avI] at h3
      have:(vs ++ Array.replicate (fn.ntmps - vs.size) undef).getD i undef = u:=by
       have hlt:i < vs.size:=by simpa using h2
       rw [aul,Array.getElem?_append_left hlt,← aun,h3]
       rfl
      rw [this]
      exact h4
     ·rw [h1];exact aA.top _ _ _
    ·simp only [fE,hF,atF,aus,avV,Array.size_replicate]
     omega
   have key:∀ (out:Out),exec C cf f K.H.length n c (numbered 0 args) K.H = some out→(out.ex = .normal∨out.ex = .ret)→(aP C out.fr out.H fn.results.toList).map (fun l=>(aN l,out.H)) = some (x,H') →
     c.wp C.P (bodyPost C.P fn (Gives C T K x H')) { tmps:=vs ++ Array.replicate (fn.ntmps - vs.size) undef,defers:=[] } K.w:=by
    intro out hout hex hres
    refine wp_mono (oQ hcf hct hC.mix c (hC.draws f fn c hF hc) hout hN) fun e a' w' hl=>?_
    obtain ⟨rfl,μ,hI',hE,hf,_,hd⟩:=hl
    cases hr:aP C out.fr out.H fn.results.toList with
    | none=>rw [hr] at hres;cases hres
    | some l =>
     rw [hr] at hres
     simp only [atF,atA,atC] at hres
     obtain ⟨rfl,rfl⟩:=hres
     obtain ⟨v,h1,h2⟩:=OC hI' hf hr
     rcases hex with hex | hex <;> rw [hex] <;> exact ⟨hd,v,h1,μ,hI',hE,h2⟩
   split at h
   ·rename_i fr' H1 hx
    exact key _ hx (.inl rfl) h
   ·rename_i fr' H1 hx
    exact key _ hx (.inr rfl) h
   ·cases h
theorem KZ (hC:Hw C):∀ n,BH C (kZ C n)
 | 0=>by intro f args H x H' h;simp [kZ] at h
 | n + 1=>by
  have:=SI (OD hC (KZ hC n) (La n) n)
  exact this
end
end Go.AM
namespace Go.AM
open Go.ChangeShapes Go.WideShapes Go.ChangeAt Go.RowKit
def T0 (n:Nat) (t b:Nat):Prop:=n≤b∨t ≠ 0
def start (W:World):Kx:=⟨fun _=>default,[],W⟩
theorem xH (W:World) (b:Nat):¬ Own (start W) b:=by
 rintro ⟨o,ob,h,_⟩
 simp [start] at h
def GOk (C:Ctx) (W:World):Prop:=∀ g p,C.G g = some p→ah p ≠ 0∧g < W.heap.size∧RP W (fun b=>b < W.heap.size) p (fun j=>W.cell? ⟨g,j,none⟩)
theorem GOk.none {C:Ctx} (hG:∀ g,C.G g = none) (W:World):GOk C W:=fun g p h=>by rw [hG] at h;cases h
theorem SK {C:Ctx} {W:World} (hG:GOk C W):Inv C (start W) (T0 W.heap.size) where
 obj:=fun o ob h=>by simp [start] at h
 inj:=fun o o' ob ob' h=>by simp [start] at h
 own:=fun b h=>absurd h (xH W b)
 new:=fun b h=>.inl h
 mono:=fun t b h=>by
  rcases h with h | h
  ·exact .inl h
  ·exact absurd rfl h
 glob:=fun g p h=>by
  obtain ⟨h1,h2,h3⟩:=hG g p h
  have hn:∀ b,b < W.heap.size→NT (start W) (T0 W.heap.size) dn b:=fun b hb=>⟨.inr (by simp [dn]),xH W b,hb⟩
  exact ⟨h1,hn g h2,jF (w':=(start W).w) (fun b hb=>⟨hn b hb,fun _ _ h=>h⟩) p _ _ (fun _ _ h=>h) h3⟩
def Za (W:World) (e:Ending) (W':World):Prop :=
 e = .returned (.bool true)∧W'.os = W.os∧W'.output = W.output∧∀ b:Nat,b < W.heap.size→W'.heap[b]? = W.heap[b]?
theorem SL {C:Ctx} (hC:Hw C) {n f:Nat} {args:List AV} {vs:Array Value} {W:World} {H':Heap} (hG:GOk C W) (h:kZ C n f args [] = some (.bool true,H'))
  (ha:eU (start W) (T0 W.heap.size) args vs.toList):Calls C.P f vs W (Za W):=by
 have:=KZ hC n f args [] _ H' h (start W) (T0 W.heap.size) vs rfl (SK hG) ha
 refine Calls.mono this fun e W' he=>?_
 cases e with
 | panicked=>exact he.elim
 | outgrown=>exact he.elim
 | returned v =>
  obtain ⟨μ,hI,hE,hv⟩:=he
  simp only [aA,aH,aQ,RV] at hv
  subst hv
  refine ⟨rfl,hE.os,hE.output,fun b hb=>hE.exact b hb (xH W b) ?_⟩
  rintro (h | h)
  ·have:b < W.heap.size:=hb
   omega
  ·exact h rfl
section
variable {H:Type} {enc:TypeId × Value→H}
theorem WH {P:Program} {f:Func} {s:ChangeSpec} {apart fresh handsOn again:Bool} {W W':World} {args:Array Value} {ds gs:List (DataW H)} {before:List MemPlace} {rt:TypeId}
  (hrow:laidOutB P = true) (hmap:mapsRowed P = true) (hfull:∀ t e,t < P.types.size→P.underlying t = some (.slice e)→0 < P.cellsOf e) (JC:∀ t ∈ f.params.toList,t < P.types.size)
  (hvars:s.vars = []) (hrt:f.resultTypes = #[rt]) (hb:P.underlying rt = some .bool)
  (hW:DataW.Whole enc P f.params.toList s.vars apart W args.toList ds gs before) (hfn:s.fn H ds = { results:=[.lit (.bool true)],args:=ds })
  (hos:W'.os = W.os) (hout:W'.output = W.output) (hsame:∀ b:Nat,b < W.heap.size→W'.heap[b]? = W.heap[b]?) :
  s.post enc P f apart fresh handsOn again W args (.bool true) W':=by
 have hlt:=hW.lt
 have hcell:∀ b off,b < W.heap.size→W'.cell? ⟨b,off,none⟩ = W.cell? ⟨b,off,none⟩:=fun b off h=>cell_of_heap (hsame b h) off
 have hfz:∀ a:Addr,a.block < W.heap.size→W'.frozen? a = W.frozen? a:=fun a h=>by unfold World.frozen?;rw [hsame _ h]
 have hat:∀ p ∈ before,W.sameAt W' p:=by
  intro p hp
  have:=hlt p hp
  cases p with
  | cell b off=>exact hcell b off this
  | map b=>exact hsame b this
 have K:=kids_rows hrow hmap
 obtain ⟨p,q,hA,hV,hps,hz,hn⟩:=id hW
 rw [hvars] at hV
 obtain ⟨rfl,rfl⟩:=trodVars_none hV
 simp only [at1] at hps
 subst hps
 -- the arguments again
 have again':∀ sp:Nat→Bool,(∀ x ∈ before,sp x.block = true)→DataW.TrodAll enc P W' 0 sp true f.params.toList args.toList ds before:=by
  intro sp hsp
  have carry:∀ {ts:List TypeId} {vs:List Value} {ds:List (DataW H)} {ps:List MemPlace},DataW.TrodAll enc P W 0 (fun _=>true) true ts vs ds ps→(∀ x ∈ ps,W.sameAt W' x)→DataW.TrodAll enc P W' 0 (fun _=>true) true ts vs ds ps:=by
   intro ts
   induction ts with
   | nil=>intro vs ds ps h _;cases vs <;> cases ds <;> first | exact h | exact h.elim
   | cons t ts ih =>
    intro vs ds ps h hs
    cases vs with
    | nil=>exact h.elim
    | cons v vs =>
     cases ds with
     | nil=>exact h.elim
     | cons d ds =>
      obtain ⟨a,b,⟨n,h1⟩,h2,e⟩:=h
      subst e
      exact ⟨a,b,⟨n,DataW.trod_carry n t _ _ h1 fun x hx=>hs x (auS _ hx)⟩,ih h2 fun x hx=>hs x (avd _ hx),rfl⟩
  exact DataW.TrodAll.respare K hfull JC (carry hA hat) hsp
 have hres:∀ (b:Nat) (sp:Nat→Bool) (hd:Bool),DataW.TrodAll enc P W' b sp hd f.resultTypes.toList ((Value.bool true).resultList f.resultTypes.size) [.lit (.bool true)] []:=by
  intro b sp hd
  rw [hrt]
  exact trodAll_mk1 (shut_bool hb true)
 have hfn':s.fn H (ds ++ []) = { results:=[.lit (.bool true)],args:=ds }:=by rw [at1];exact hfn
 have hold:∀ x ∈ before,(fun b=>decide (b < W.heap.size)) x.block = true:=fun x hx=>by simpa using hlt x hx
 have hkept:W.keptBut W' (fun x=>x ∈ before∧x ∈ before ++ []):=by
  refine ⟨hos,hout,fun i hi=>?_⟩
  rw [hsame i hi]
  generalize W.heap[i]? = x
  rcases x with _ | x
  ·rfl
  ·cases x <;> simp
 refine ⟨ds,[],before,[],before,[],hW,?_,?_,?_,?_,fun _=>?_⟩
 ·rw [hfn'];exact hres _ _ _
 ·rw [hfn'];exact again' _ hold
 ·rw [hfn',hvars];rfl
 ·refine World.keptBut_mono (fun x hx=>?_) hkept
  exact ⟨hx.1,.inr (.inl hx.1)⟩
 ·refine ⟨ok_one hrt rfl (okWide_bool_mk hb true),[.lit (.bool true)] ++ ds,[],([] ++ before) ++ [],⟨[] ++ before,[],?_,?_,rfl,?_,?_⟩,?_⟩
  ·exact trodAll_append (again' _ (fun _ _=>rfl)) (hres _ _ _)
  ·rw [hvars];rfl
  ·intro b off hp
   have hp':MemPlace.cell b off ∈ before:=by simpa using hp
   rw [hfz ⟨b,off,none⟩ (hlt (MemPlace.cell b off) hp')]
   exact hz b off hp'
  ·intro ha
   simpa using hn ha
  ·intro x hx _
   simpa using hx
theorem law_lifted {a:Assume} {D:Checked} {X:Ctx} (hX:X.P = D.prog) (hC:Hw X) (hG:∀ g,X.G g = none) {os:Os} {f:FuncId} {fn:Func} {s:ChangeSpec} {conds:List PathCond} {apart fresh handsOn again:Bool} {rt:TypeId}
  (own:ownKnob D.prog.godebug = none) (started:os.Started) (noInit:D.prog.inits.idxOf? f = none) (hfn:D.prog.funcs[f]? = some fn)
  (witness:∃ (w:World) (tape:Tape) (i:Input),w.os = os∧(w.forCall tape i).Shaped D.prog∧i.vars = []∧Input.okWide D.prog (w.forCall tape i) .any w.heap.size f i ∧
   s.pre6 enc D.prog fn conds apart (w.forCall tape i).memory i.args∧a.holds D.prog (lone (Frame.enter D.prog f i.args .normal) [] (w.forCall tape i)))
  (hrow:laidOutB D.prog = true) (hmap:mapsRowed D.prog = true) (hfull:∀ t e,t < D.prog.types.size→D.prog.underlying t = some (.slice e)→0 < D.prog.cellsOf e) (JC:∀ t ∈ fn.params.toList,t < D.prog.types.size)
  (hvars:s.vars = []) (hrt:fn.resultTypes = #[rt]) (hb:D.prog.underlying rt = some .bool)
  (hspec:∀ ds:List (DataW H),ds.length = fn.params.toList.length→s.fn H ds = { results:=[.lit (.bool true)],args:=ds })
  (run:∀ (W:World) (base:Nat) (args:Array Value) (ds:List (DataW H)) (ps:List MemPlace),
   (∀ (j:Nat) t v,fn.params[j]? = some t→args[j]? = some v→Value.okWide D.prog W .any base t v) →
   DataW.TrodAll enc D.prog W 0 (fun _=>true) true fn.params.toList args.toList ds ps →
   ∃ n as H',kZ X n f as [] = some (.bool true,H')∧eU (start W) (T0 W.heap.size) as args.toList) :
  ReturnsInHanded a D os f .any (s.pre6 enc D.prog fn conds apart) (s.post enc D.prog fn apart fresh handsOn again):=by
 refine returnsInHanded_of_change own started noInit hfn witness ?_
 intro W base args ds gs before hval hW _ _
 obtain ⟨p,q,hA,hV,_,_,_⟩:=id hW
 obtain ⟨n,as,H',h1,h2⟩:=run W base args ds p hval hA
 have BJ:=SL hC (GOk.none hG W) h1 h2
 rw [hX] at BJ
 refine Calls.mono BJ fun e W' he=>?_
 obtain ⟨he,hos,hout,hsame⟩:=he
 exact ⟨_,he,WH hrow hmap hfull JC hvars hrt hb hW (hspec ds (trodAll_length hA).2) hos hout hsame⟩
end
def WI (C:Ctx):Bool :=
 (List.range C.P.funcs.size).all fun f=>match C.P.funcs[f]? with
  | some fn=>match fn.body with
   | some c=>jE C f c
   | none=>true
  | none=>true
theorem Wi {C:Ctx} (mix:C.P.follows .mixedOrders = true) (h:WI C = true):Hw C where
 mix:=mix
 draws:=by
  intro f fn c hf hc
  have hlt:f < C.P.funcs.size:=(au6.1 hf).1
  have:=atT.1 h f (aug.2 hlt)
  rw [hf] at this
  simp only [hc] at this
  exact this
def litVal:Lit→Value
 | .bool b=>.bool b
 | .int k n=>.int k n
 | .string b=>.string ⟨⟨b⟩⟩
 | _=>undef
mutual
def cellsD:DataW Unit→List Value
 | .lit l=>[litVal l]
 | .agg ps=>QE ps
 | _=>[undef]
def QE:List (DataW Unit)→List Value
 | []=>[]
 | d :: r=>cellsD d ++ QE r
end
end Go.AM
namespace Go.AM
open Go.Lib
section
variable {C:Ctx}
def Ev1 (C:Ctx) (f:Nat) (args:List AV) (H:Heap) (r:AV × Heap):Prop:=∃ n0,∀ n,n0≤n→kZ C n f args H = some r
def Below (C:Ctx) (T:Cf):Prop:=∀ f args H r,T f args H = some r→Ev1 C f args H r
theorem Zb {T:Cf} (hT:Below C T) {fr:Frame} {H:Heap} {o:Oper} {r:AV × Heap} (h:step C T fr H o = some r):∃ n0,∀ n,n0≤n→step C (kZ C n) fr H o = some r:=by
 obtain ⟨dst,op,type,pos,after,guard⟩:=o
 cases op <;> try exact ⟨0,fun _ _=>h⟩
 case makeFunc fn first caps=>cases fn <;> exact ⟨0,fun _ _=>h⟩
 case call c =>
  simp only [step,uj] at h ⊢
  cases hc:c.callee with
  | builtin b=>rw [hc] at h;exact ⟨0,fun _ _=>h⟩
  | value x =>
   rw [hc] at h
   simp only at h ⊢
   split at h
   ·rename_i f caps he
    split at h
    ·obtain ⟨n0,hn⟩:=hT _ _ _ _ h
     refine ⟨n0,fun n hl=>?_⟩
     rename_i hb
     rw [if_pos hb]
     exact hn n hl
    ·cases h
   ·cases h
  | invoke r n=>rw [hc] at h;cases h
theorem QF {T:Cf} (hT:Below C T) {nt:Nat} {ops:Array Oper} {o:Oper} {fr:Frame} {H:Heap} {r:AV × Heap} (h:out1 C T nt ops o fr H = some r):∃ n0,∀ n,n0≤n→out1 C (kZ C n) nt ops o fr H = some r:=by
 unfold out1 at h ⊢
 split at h
 ·rename_i hd
  simp only [hd,if_true]
  split at h
  ·exact Zb hT h
  ·exact ⟨0,fun _ _=>h⟩
  ·cases h
 ·cases h
theorem H9 {T:Cf} (hT:Below C T) {nt:Nat} {ops:Array Oper}:∀ {l:List Oper} {fr:Frame} {H:Heap} {r:Frame × Heap},lJ C T nt ops l fr H = some r→∃ n0,∀ n,n0≤n→lJ C (kZ C n) nt ops l fr H = some r
 | [],fr,H,r,h=>⟨0,fun _ _=>h⟩
 | o :: l,fr,H,r,h=>by
  rw [wu] at h
  split at h
  ·rename_i v H1 hv
   obtain ⟨n0,h0⟩:=QF hT hv
   obtain ⟨n1,h1⟩:=H9 hT h
   refine ⟨max n0 n1,fun n hn=>?_⟩
   rw [wu,h0 n (by omega)]
   exact h1 n (by omega)
  ·cases h
theorem QG {T:Cf} (hT:Below C T) {nt:Nat} {ops:Array Oper}:∀ {l:List Oper} {fr:Frame} {H:Heap} {r:Frame × Heap × List Mark},jU C T nt ops l fr H = some r→∃ n0,∀ n,n0≤n→jU C (kZ C n) nt ops l fr H = some r
 | [],fr,H,r,h=>⟨0,fun _ _=>h⟩
 | o :: l,fr,H,r,h=>by
  simp only [jU] at h
  split at h
  ·rename_i v H1 hv
   split at h
   ·rename_i fr' H2 ms hr
    obtain ⟨n0,h0⟩:=QF hT hv
    obtain ⟨n1,h1⟩:=QG hT hr
    refine ⟨max n0 n1,fun n hn=>?_⟩
    simp only [jU]
    rw [h0 n (by omega)]
    simp only
    rw [h1 n (by omega)]
    exact h
   ·cases h
  ·cases h
theorem oU {T:Cf} (hT:Below C T) {f m k:Nat}:(c:Code)→∀ {fr:Frame} {H:Heap} {out:Out},exec C T f m k c fr H = some out→∃ n0,∀ n,n0≤n→∀ k',k≤k'→exec C (kZ C n) f m k' c fr H = some out
 | .skip,fr,H,out,h=>⟨0,fun _ _ _ _=>h⟩
 | .region id ops draw,fr,H,out,h=>by
  simp only [exec] at h ⊢
  split at h
  ·rename_i hd
   simp only [hd,if_true]
   split at h
   ·rename_i fr' H' ms hr
    obtain ⟨n0,h0⟩:=QG hT hr
    refine ⟨n0,fun n hn k' _=>?_⟩
    rw [h0 n hn]
    exact h
   ·cases h
  ·rename_i hd
   simp only [hd,atO,if_false]
   split at h
   ·cases h
   ·rename_i hd2
    simp only [hd2,atO,if_false]
    split at h
    ·rename_i fr' H' hr
     obtain ⟨n0,h0⟩:=H9 hT hr
     refine ⟨n0,fun n hn k' _=>?_⟩
     rw [h0 n hn]
     exact h
    ·cases h
 | .seq a b,fr,H,out,h=>by
  simp only [exec] at h ⊢
  split at h
  ·rename_i fr' H' ha
   obtain ⟨n0,h0⟩:=oU hT a ha
   obtain ⟨n1,h1⟩:=oU hT b h
   refine ⟨max n0 n1,fun n hn k' hk=>?_⟩
   rw [h0 n (by omega) k' hk]
   exact h1 n (by omega) k' hk
  ·rename_i hne
   obtain ⟨n0,h0⟩:=oU hT a h
   refine ⟨n0,fun n hn k' hk=>?_⟩
   rw [h0 n hn k' hk]
   obtain ⟨ex,fr',H'⟩:=out
   cases ex with
   | normal=>exact absurd h (hne _ _)
   | exit id=>rfl
   | ret=>rfl
 | .cond c a b,fr,H,out,h=>by
  simp only [exec] at h ⊢
  split at h
  ·rename_i d hd
   cases d with
   | true=>exact oU hT a h
   | false=>exact oU hT b h
  ·cases h
 | .block id c,fr,H,out,h=>by
  simp only [exec] at h ⊢
  split at h
  ·rename_i id' fr' H' hc
   obtain ⟨n0,h0⟩:=oU hT c hc
   refine ⟨n0,fun n hn k' hk=>?_⟩
   rw [h0 n hn k' hk]
   exact h
  ·rename_i hne
   obtain ⟨n0,h0⟩:=oU hT c h
   refine ⟨n0,fun n hn k' hk=>?_⟩
   rw [h0 n hn k' hk]
   obtain ⟨ex,fr',H'⟩:=out
   cases ex with
   | normal=>rfl
   | exit id=>exact absurd h (hne _ _ _)
   | ret=>rfl
 | .loop c,fr,H,out,h=>by
  simp only [exec] at h ⊢
  have key:∀ j,∀ {fr:Frame} {H:Heap},pR (exec C T f m k c) j fr H = some out→∃ n0,∀ n,n0≤n→∀ k',k≤k'→∀ j',j≤j'→pR (exec C (kZ C n) f m k' c) j' fr H = some out:=by
   intro j
   induction j with
   | zero=>intro fr H h;simp [pR] at h
   | succ j ih =>
    intro fr H h
    simp only [pR] at h
    split at h
    ·rename_i fr' H' hc
     obtain ⟨n0,h0⟩:=oU hT c hc
     obtain ⟨n1,h1⟩:=ih h
     refine ⟨max n0 n1,fun n hn k' hk j' hj=>?_⟩
     obtain ⟨j',rfl⟩:∃ i,j' = i + 1:=⟨j' - 1,by omega⟩
     simp only [pR]
     rw [h0 n (by omega) k' hk]
     exact h1 n (by omega) k' hk j' (by omega)
    ·rename_i hne
     obtain ⟨n0,h0⟩:=oU hT c h
     refine ⟨n0,fun n hn k' hk j' hj=>?_⟩
     obtain ⟨j',rfl⟩:∃ i,j' = i + 1:=⟨j' - 1,by omega⟩
     simp only [pR]
     rw [h0 n hn k' hk]
     obtain ⟨ex,fr',H'⟩:=out
     cases ex with
     | normal=>exact absurd h (hne _ _)
     | exit id=>rfl
     | ret=>rfl
  obtain ⟨n0,h0⟩:=key k h
  exact ⟨n0,fun n hn k' hk=>h0 n hn k' hk k' hk⟩
 | .exit id,fr,H,out,h=>⟨0,fun _ _ _ _=>h⟩
 | .ret,fr,H,out,h=>⟨0,fun _ _ _ _=>h⟩
 | .scope ..,fr,H,out,h=>by simp [exec] at h
 | .label ..,fr,H,out,h=>by simp [exec] at h
 | .goto ..,fr,H,out,h=>by simp [exec] at h
 | .refuse ..,fr,H,out,h=>by simp [exec] at h
 | .rangeFunc ..,fr,H,out,h=>by simp [exec] at h
theorem OE {T:Cf} (hT:Below C T) {k f:Nat} {args:List AV} {H:Heap} {r:AV × Heap} (h:lu C T k f args H = some r):∃ n0,∀ n,n0≤n→lu C (kZ C n) n f args H = some r:=by
 unfold lu at h ⊢
 cases hF:C.P.funcs[f]? with
 | none=>rw [hF] at h;cases h
 | some fn =>
  rw [hF] at h
  simp only at h ⊢
  cases hb:fn.body with
  | none=>rw [hb] at h;cases h
  | some c =>
   rw [hb] at h
   simp only at h ⊢
   cases he:exec C T f H.length k c (numbered 0 args) H with
   | none=>rw [he] at h;cases h
   | some out =>
    obtain ⟨n0,h0⟩:=oU hT c he
    refine ⟨max n0 k,fun n hn=>?_⟩
    rw [h0 n (by omega) n (by omega)]
    rw [he] at h
    exact h
theorem EU {T:Cf} (hT:Below C T) {k f:Nat} {args:List AV} {H:Heap} {r:AV × Heap} (h:jP C (lu C T k) f args H = some r):Ev1 C f args H r:=by
 unfold jP at h
 split at h
 ·cases h
 ·rename_i as aK hl
  simp only at h
  split at h
  ·rename_i hc
   split at h
   ·cases h
   ·rename_i v H1 hb
    obtain ⟨n0,h0⟩:=OE hT hb
    refine ⟨n0 + 1,fun n hn=>?_⟩
    obtain ⟨n,rfl⟩:∃ i,n = i + 1:=⟨n - 1,by omega⟩
    show jP C (lu C (kZ C n) n) f args H = some r
    unfold jP
    rw [hl]
    simp only
    rw [if_pos hc,h0 n (by omega)]
    exact h
  ·cases h
theorem Below.none:Below C (fun _ _ _=>none):=by intro f args H r h;cases h
def QH (C:Ctx) (T:Cf):Nat→Cf
 | 0,f,args,H=>T f args H
 | n + 1,f,args,H=>match T f args H with
  | some r=>some r
  | none=>jP C (lu C (QH C T n) n) f args H
theorem Df {T:Cf} (hT:Below C T):∀ n,Below C (QH C T n)
 | 0=>hT
 | n + 1=>by
  intro f args H r h
  simp only [QH] at h
  split at h
  ·rename_i r' hr
   rw [← atK h]
   exact hT _ _ _ _ hr
  ·exact EU (Df hT n) h
theorem yR {b b':Frame→Heap→Option Out} (hb:∀ fr H out,b fr H = some out→b' fr H = some out):∀ {j j':Nat} {fr:Frame} {H:Heap} {out:Out},j≤j'→pR b j fr H = some out→pR b' j' fr H = some out
 | 0,j',fr,H,out,_,h=>by simp [pR] at h
 | j + 1,j',fr,H,out,hj,h=>by
  obtain ⟨j',rfl⟩:∃ i,j' = i + 1:=⟨j' - 1,by omega⟩
  simp only [pR] at h ⊢
  split at h
  ·rename_i fr' H' hc
   rw [hb _ _ _ hc]
   exact yR hb (by omega) h
  ·rename_i hne
   rw [hb _ _ _ h]
   obtain ⟨ex,fr',H'⟩:=out
   cases ex with
   | normal=>exact absurd h (hne _ _)
   | exit id=>rfl
   | ret=>rfl
theorem iJ {T:Cf} {f m k k':Nat} (hk:k≤k'):(c:Code)→∀ (fr:Frame) (H:Heap) (out:Out),exec C T f m k c fr H = some out→exec C T f m k' c fr H = some out
 | .skip,fr,H,out,h=>h
 | .region id ops draw,fr,H,out,h=>h
 | .seq a b,fr,H,out,h=>by
  simp only [exec] at h ⊢
  split at h
  ·rename_i fr' H' ha
   rw [iJ hk a _ _ _ ha]
   exact iJ hk b _ _ _ h
  ·rename_i hne
   rw [iJ hk a _ _ _ h]
   obtain ⟨ex,fr',H'⟩:=out
   cases ex with
   | normal=>exact absurd h (hne _ _)
   | exit id=>rfl
   | ret=>rfl
 | .cond c a b,fr,H,out,h=>by
  simp only [exec] at h ⊢
  split at h
  ·rename_i d hd
   cases d with
   | true=>exact iJ hk a _ _ _ h
   | false=>exact iJ hk b _ _ _ h
  ·cases h
 | .block id c,fr,H,out,h=>by
  simp only [exec] at h ⊢
  split at h
  ·rename_i id' fr' H' hc
   rw [iJ hk c _ _ _ hc]
   exact h
  ·rename_i hne
   rw [iJ hk c _ _ _ h]
   obtain ⟨ex,fr',H'⟩:=out
   cases ex with
   | normal=>rfl
   | exit id=>exact absurd h (hne _ _ _)
   | ret=>rfl
 | .loop c,fr,H,out,h=>by
  simp only [exec] at h ⊢
  exact yR (iJ hk c) hk h
 | .exit id,fr,H,out,h=>h
 | .ret,fr,H,out,h=>h
 | .scope ..,fr,H,out,h=>by simp [exec] at h
 | .label ..,fr,H,out,h=>by simp [exec] at h
 | .goto ..,fr,H,out,h=>by simp [exec] at h
 | .refuse ..,fr,H,out,h=>by simp [exec] at h
 | .rangeFunc ..,fr,H,out,h=>by simp [exec] at h
def Run (C:Ctx) (T:Cf) (f m:Nat) (c:Code) (fr:Frame) (H:Heap) (out:Out):Prop:=∃ k,exec C T f m k c fr H = some out
variable {T:Cf} {f m:Nat} {fr fr':Frame} {H H':Heap} {out:Out}
theorem Run.seq {a b:Code} (h:Run C T f m a fr H ⟨.normal,fr',H'⟩) (h':Run C T f m b fr' H' out):Run C T f m (.seq a b) fr H out:=by
 obtain ⟨k0,h0⟩:=h
 obtain ⟨k1,h1⟩:=h'
 refine ⟨max k0 k1,?_⟩
 simp only [exec]
 rw [iJ (Nat.le_max_left k0 k1) a _ _ _ h0]
 exact iJ (Nat.le_max_right k0 k1) b _ _ _ h1
theorem Run.bI {a b:Code} (h:Run C T f m a fr H out) (hne:out.ex ≠ .normal):Run C T f m (.seq a b) fr H out:=by
 obtain ⟨k0,h0⟩:=h
 refine ⟨k0,?_⟩
 simp only [exec]
 rw [h0]
 obtain ⟨ex,fr',H'⟩:=out
 cases ex with
 | normal=>exact absurd rfl hne
 | exit id=>rfl
 | ret=>rfl
theorem Run.cond {c:Operand} {a b:Code} {d:Bool} (hc:aJ C fr c = .bool d) (h:Run C T f m (if d then a else b) fr H out):Run C T f m (.cond c a b) fr H out:=by
 obtain ⟨k0,h0⟩:=h
 refine ⟨k0,?_⟩
 simp only [exec]
 rw [hc]
 cases d <;> exact h0
theorem Run.iL {id:Nat} {c:Code} (h:Run C T f m c fr H ⟨.exit id,fr',H'⟩):Run C T f m (.block id c) fr H ⟨.normal,fr',H'⟩:=by
 obtain ⟨k0,h0⟩:=h
 refine ⟨k0,?_⟩
 simp only [exec]
 rw [h0]
 simp
theorem Run.block {id:Nat} {c:Code} (h:Run C T f m c fr H out) (hne:out.ex ≠ .exit id):Run C T f m (.block id c) fr H out:=by
 obtain ⟨k0,h0⟩:=h
 refine ⟨k0,?_⟩
 simp only [exec]
 rw [h0]
 obtain ⟨ex,fr',H'⟩:=out
 cases ex with
 | normal=>rfl
 | exit id' =>
  have:id' ≠ id:=fun e=>hne (by rw [e])
  simp [this]
 | ret=>rfl
theorem Run.xI {c:Code} (h:Run C T f m c fr H ⟨.normal,fr',H'⟩) (h':Run C T f m (.loop c) fr' H' out):Run C T f m (.loop c) fr H out:=by
 obtain ⟨k0,h0⟩:=h
 obtain ⟨k1,h1⟩:=h'
 refine ⟨max k0 k1 + 1,?_⟩
 simp only [exec] at h1 ⊢
 rw [pR,iJ (show k0≤max k0 k1 + 1 by omega) c _ _ _ h0]
 exact yR (iJ (show k1≤max k0 k1 + 1 by omega) c) (by omega) h1
theorem Run.zT {c:Code} (h:Run C T f m c fr H out) (hne:out.ex ≠ .normal):Run C T f m (.loop c) fr H out:=by
 obtain ⟨k0,h0⟩:=h
 refine ⟨k0 + 1,?_⟩
 simp only [exec]
 rw [pR,iJ (show k0≤k0 + 1 by omega) c _ _ _ h0]
 obtain ⟨ex,fr',H'⟩:=out
 cases ex with
 | normal=>exact absurd rfl hne
 | exit id=>rfl
 | ret=>rfl
theorem Run.oC {c:Code} {σ:Type} (I:σ→Prop) (fr:σ→Frame) (H:σ→Heap) (out:σ→Out) (μ:σ→Nat)
  (step:∀ s,I s→(∃ s',I s'∧Run C T f m c (fr s) (H s) ⟨.normal,fr s',H s'⟩∧out s' = out s∧μ s' < μ s)∨(Run C T f m c (fr s) (H s) (out s)∧(out s).ex ≠ .normal)) (s:σ) (hs:I s) :
  Run C T f m (.loop c) (fr s) (H s) (out s):=by
 generalize hn:μ s = n
 induction n using Nat.strongRecOn generalizing s with
 | _ n ih =>
  rcases step s hs with ⟨s',h0,h1,h2,h3⟩ | ⟨h1,h2⟩
  ·rw [← h2]
   exact Run.xI h1 (ih (μ s') (by omega) s' h0 rfl)
  ·exact Run.zT h1 h2
theorem Ev1.of {T:Cf} (hT:Below C T) {f:Nat} {args:List AV} {H:Heap} {r:AV × Heap} {fn:Func} {c:Code} {as:List AV} {aK:List fB} {out:Out} {l:List AV}
  (hF:C.P.funcs[f]? = some fn) (hb:fn.body = some c) (hl:aG C f H 0 args = some (as,aK))
  (hc:((aK.all fun x=>disjoint x.objs (reach H aF (aC as) [])) && decide (as.length + 1 < dn)) = true)
  (he:Run C T f ((reach H aF (aC as) []).length) c (numbered 0 (coerce C (bU (dI H (reach H aF (aC as) [])) (fun t=>t) as) (aI C f)))
   ((reach H aF (aC as) []).map fun o=>(aU H o).map (aT (dI H (reach H aF (aC as) [])) (fun _=>as.length + 1) 0)) out)
  (hex:out.ex = .normal∨out.ex = .ret) (hr:aP C out.fr out.H fn.results.toList = some l)
  (hw:wrap H (reach H aF (aC as) []) (aK ++ [⟨[],au ((reach H aF (aC as) []).map (aU H))⟩]) (aN l) out.H = some r):Ev1 C f args H r:=by
 obtain ⟨k,hk⟩:=he
 refine EU hT (k:=k) ?_
 unfold jP
 rw [hl]
 simp only
 rw [if_pos hc]
 have:lu C T k f (coerce C (bU (dI H (reach H aF (aC as) [])) (fun t=>t) as) (aI C f))
   ((reach H aF (aC as) []).map fun o=>(aU H o).map (aT (dI H (reach H aF (aC as) [])) (fun _=>as.length + 1) 0)) = some (aN l,out.H):=by
  unfold lu
  rw [hF]
  simp only
  rw [hb]
  simp only [auJ]
  rw [hk]
  obtain ⟨ex,fr',H'⟩:=out
  simp only at hex hr ⊢
  rcases hex with rfl | rfl <;> simp [hr]
 rw [this]
 exact hw
theorem EW {H:Heap} {t:Nat} {a:AV} (hi:ids a = []):dN H t a = dN [] t a∧∀ r,dN H t a = some r→r.2.objs = []∧ids r.1 = []:=by
 cases a
 case sl o off len g=>simp [ids] at hi
 case ro c p t' =>
  refine ⟨rfl,fun r h=>?_⟩
  simp only [dN,atA] at h
  subst h
  exact ⟨rfl,rfl⟩
 case iZ p i f t' =>
  refine ⟨rfl,fun r h=>?_⟩
  simp only [dN,atA] at h
  subst h
  exact ⟨rfl,rfl⟩
 all_goals
  refine ⟨rfl,fun r h=>?_⟩
  simp only [dN] at h
  split at h
  ·simp only [atA] at h
   subst h
   exact ⟨rfl,hi⟩
  ·cases h
theorem yS {H:Heap} {t:Nat}:∀ {l:List AV},aC l = []→iq H t l = iq [] t l∧∀ r,iq H t l = some r→r.2.objs = []∧aC r.1 = []
 | [],_=>⟨rfl,fun r h=>by simp only [iq,atA] at h;subst h;exact ⟨rfl,rfl⟩⟩
 | a :: l,hi=>by
  simp only [aC,au8] at hi
  obtain ⟨h1,h2⟩:=EW (H:=H) (t:=t) hi.1
  obtain ⟨h3,h4⟩:=yS (H:=H) (t:=t) hi.2
  refine ⟨by simp only [iq,h1,h3],fun r h=>?_⟩
  simp only [iq] at h
  split at h
  ·rename_i a' x r' y e1 e2
   simp only [atA] at h
   subst h
   obtain ⟨q1,q2⟩:=h2 _ e1
   obtain ⟨q3,q4⟩:=h4 _ e2
   exact ⟨by simp only at q1 q3 ⊢;rw [q1,q3];rfl,by simp only [aC] at q2 q4 ⊢;rw [q2,q4];rfl⟩
  ·cases h
theorem OG {H:Heap} {t:Nat} {a:AV} (hi:ids a = []):dV H t a = dV [] t a∧∀ r,dV H t a = some r→r.2.objs = []∧ids r.1 = []:=by
 unfold dV
 split
 ·rename_i l
  obtain ⟨h1,h2⟩:=yS (H:=H) (t:=t) (l:=l) (by simpa [ids] using hi)
  refine ⟨by rw [h1],fun r h=>?_⟩
  cases hl:iq H t l with
  | none=>rw [hl] at h;cases h
  | some z =>
   rw [hl] at h
   simp only [atF,atA] at h
   subst h
   obtain ⟨q1,q2⟩:=h2 _ hl
   exact ⟨q1,by simpa [ids] using q2⟩
 ·rename_i f l
  obtain ⟨h1,h2⟩:=yS (H:=H) (t:=t) (l:=l) (by simpa [ids] using hi)
  refine ⟨by rw [h1],fun r h=>?_⟩
  cases hl:iq H t l with
  | none=>rw [hl] at h;cases h
  | some z =>
   rw [hl] at h
   simp only [atF,atA] at h
   subst h
   obtain ⟨q1,q2⟩:=h2 _ hl
   exact ⟨q1,by simpa [ids] using q2⟩
 ·exact EW hi
theorem yw {f:Nat} {H:Heap}:∀ {args:List AV} {i:Nat},aC args = []→aG C f H i args = aG C f [] i args∧∀ r,aG C f H i args = some r→(∀ x ∈ r.2,x.objs = [])∧aC r.1 = []
 | [],i,_=>⟨rfl,fun r h=>by simp only [aG,atA] at h;subst h;simp [aC]⟩
 | a :: l,i,hi=>by
  simp only [aC,au8] at hi
  obtain ⟨h1,h2⟩:=OG (H:=H) (t:=i + 1) hi.1
  obtain ⟨h3,h4⟩:=yw (f:=f) (H:=H) (i:=i + 1) hi.2
  have e:∀ H:Heap,aG C f H i (a :: l) = match dV H (i + 1) a,aG C f H (i + 1) l with
    | some (a',x),some (r',y)=>some (a' :: r',x :: y)
    | _,_=>none:=by
   intro H
   clear h1 h2 h3 h4
   cases a
   case sl o off len g=>simp [ids] at hi
   all_goals
    simp only [aG]
    generalize dV H (i + 1) _ = x
    generalize aG C f H (i + 1) l = y
    cases C.rw f i <;> rcases x with _ | ⟨_,_⟩ <;> rcases y with _ | ⟨_,_⟩ <;> rfl
  rw [e,e,h1,h3]
  refine ⟨rfl,fun r h=>?_⟩
  rw [← h1,← h3] at h
  split at h
  ·rename_i a' x r' y e1 e2
   simp only [atA] at h
   subst h
   obtain ⟨q1,q2⟩:=h2 _ e1
   obtain ⟨q3,q4⟩:=h4 _ e2
   refine ⟨fun z hz=>?_,by simp only [aC] at q2 q4 ⊢;rw [q2,q4];rfl⟩
   rcases atX.1 hz with rfl | hz
   ·exact q1
   ·exact q3 z hz
  ·cases h
theorem um (H:Heap) (acc:List Nat):∀ n,reach H n [] acc = acc
 | 0=>rfl
 | _ + 1=>rfl
def wz (n:Nat) (o g:Nat):Option (Nat × Nat):=some (o + n,g)
def dw (n:Nat) (v:AV):AV:=ren (wz n) (fun t=>t) v
def kT (n:Nat) (N:Heap):Heap:=N.map fun x=>x.map fun ob=>aT (wz n) (fun t=>t) ob.g ob
mutual
theorem qJ {ρ ρ':Nat→Nat→Option (Nat × Nat)} {τ:Nat→Nat} {n:Nat} (h:∀ o g,ρ' o g = (ρ o g).map fun x=>(x.1 + n,x.2)):(v:AV)→ren ρ' τ v = dw n (ren ρ τ v)
 | .ptr o i f g=>by
  simp only [ren,h]
  rcases ρ o g with _ | ⟨a,b⟩ <;> simp [dw,ren,wz]
 | .sl o off len g=>by
  simp only [ren,h]
  rcases ρ o g with _ | ⟨a,b⟩ <;> simp [dw,ren,wz]
 | .map o g=>by
  simp only [ren,h]
  rcases ρ o g with _ | ⟨a,b⟩ <;> simp [dw,ren,wz]
 | .ro c p t=>by simp [ren,dw]
 | .iZ p i f t=>by simp [ren,dw]
 | .agg p=>by simp only [ren,dw,qJ h p]
 | .tup l=>by simp only [ren,dw,oD h l]
 | .fn f l=>by simp only [ren,dw,oD h l]
 | .pc l=>by simp only [ren,dw,oD h l]
 | .pr e l=>by simp only [ren,dw,oD h l]
 | .pm l=>by simp only [ren,dw,oD h l]
 | .top=>by simp [ren,dw]
 | .bool _=>by simp [ren,dw]
 | .int _ _=>by simp [ren,dw]
 | .str _=>by simp [ren,dw]
 | .gI=>by simp [ren,dw]
 | .jJ=>by simp [ren,dw]
 | .iD=>by simp [ren,dw]
 | .pn=>by simp [ren,dw]
 | .pb _=>by simp [ren,dw]
 | .pi _ _=>by simp [ren,dw]
theorem oD {ρ ρ':Nat→Nat→Option (Nat × Nat)} {τ:Nat→Nat} {n:Nat} (h:∀ o g,ρ' o g = (ρ o g).map fun x=>(x.1 + n,x.2)):(l:List AV)→bU ρ' τ l = bU (wz n) (fun t=>t) (bU ρ τ l)
 | []=>rfl
 | a :: r=>by
  have h1:=qJ (τ:=τ) h a
  simp only [dw] at h1
  simp only [bU,h1,oD h r]
end
theorem wB:∀ (l:List Nat) (o i n:Nat),idxOf l o (i + n) = (idxOf l o i).map (· + n)
 | [],_,_,_=>rfl
 | a :: r,o,i,n=>by
  simp only [idxOf]
  split
  ·rfl
  ·rw [show i + n + 1 = (i + 1) + n by omega,wB r o (i + 1) n]
theorem Ev1.frame {f:Nat} {args:List AV} {v:AV} {N:Heap} (h:Ev1 C f args [] (v,N)) (hi:aC args = []) (H:Heap):Ev1 C f args H (dw H.length v,H ++ kT H.length N):=by
 obtain ⟨n0,h0⟩:=h
 refine ⟨n0 + 1,fun n hn=>?_⟩
 obtain ⟨n,rfl⟩:∃ i,n = i + 1:=⟨n - 1,by omega⟩
 have h1:=h0 (n + 1) (by omega)
 simp only [kZ,jP] at h1 ⊢
 obtain ⟨e1,e2⟩:=yw (C:=C) (f:=f) (H:=H) (i:=0) hi
 rw [e1]
 split at h1
 ·cases h1
 ·rename_i as aK hl
  obtain ⟨e3,e4⟩:=e2 _ (e1.trans hl)
  simp only at e3 e4 h1 ⊢
  rw [e4] at h1 ⊢
  simp only [um,auj,atY] at h1 ⊢
  have abg:∀ (H H':Heap) (l:List AV),bU (dI H []) (fun t=>t) l = bU (dI H' []) (fun t=>t) l:=by
   intro H H' l
   have:dI H [] = dI H' []:=by
    funext o g
    unfold dI
    split <;> split <;> simp [idxOf]
   rw [this]
  rw [abg H []]
  split at h1
  ·rename_i hc
   rw [if_pos hc]
   split at h1
   ·cases h1
   ·rename_i u H1 hb
    unfold wrap at h1 ⊢
    simp only [atY,auZ,at6,auj,au,at1] at h1 ⊢
    split at h1
    ·rename_i hu
     rw [if_pos hu]
     generalize (List.filter (fun o=>decide (0≤o)) (reach H1 aF (ids u) [])) = new at h1 ⊢
     have DV:∀ o g,bV H [] new H1 o g = (bV [] [] new H1 o g).map fun x=>(x.1 + H.length,x.2):=by
      intro o g
      unfold bV
      split
      ·have:=wB new o 0 H.length
       rw [auo] at this
       simp [this,Option.map_map,Function.comp_def]
      ·rfl
     have WJ:∀ t,dG (aK ++ [⟨[],[]⟩]) t = []:=by
      intro t
      unfold dG
      split
      ·rfl
      ·split
       ·rename_i x hx
        rcases atM.1 (atL hx) with hx | hx
        ·exact e3 x hx
        ·simp only [at7] at hx
         rw [hx]
       ·rfl
     have hfl:∀ l:List Nat,l.flatMap (dG (aK ++ [⟨[],[]⟩])) = []:=fun l=>by simp [WJ]
     simp only [hfl,aut] at h1 ⊢
     simp only [aut,strike,bW,at6,atA,atC] at h1 ⊢
     obtain ⟨h2,h3⟩:=h1
     refine ⟨by rw [← h2];exact qJ DV u,?_⟩
     rw [← h3]
     congr 1
     simp only [kT,au4]
     refine auD fun o _=>?_
     simp only [Function.comp]
     cases aU H1 o with
     | none=>rfl
     | some ob =>
      simp only [atF,aT,atA]
      have:=qJ (τ:=bM (aK ++ [⟨[],[]⟩])) DV ob.p
      simp only [dw] at this
      rw [this]
    ·cases h1
  ·cases h1
end
structure Row1 where
 f:Nat
 args:List AV
 res:AV
 N:Heap
def kU (C:Ctx) (L:List Row1):Prop:=∀ e ∈ L,Ev1 C e.f e.args [] (e.res,e.N)∧aC e.args = []
theorem kU.nil {C:Ctx}:kU C []:=by intro e h;simp at h
def EX (C:Ctx) (T:Cf) (n:Nat) (e:Row1):Bool :=
 (aC e.args).isEmpty && (match jP C (lu C (QH C T n) n) e.f e.args [] with
  | some (v,N)=>iV v e.res && eqH N e.N
  | none=>false)
theorem kU.cons {C:Ctx} {T:Cf} (hT:Below C T) {L:List Row1} (hL:kU C L) {n:Nat} {e:Row1} (h:EX C T n e = true):kU C (e :: L):=by
 intro x hx
 rcases atX.1 hx with rfl | hx
 ·unfold EX at h
  simp only [atS,avF] at h
  refine ⟨?_,h.1⟩
  have h2:=h.2
  split at h2
  ·rename_i v N hv
   simp only [atS] at h2
   rw [← xJ _ _ h2.1,← yT h2.2]
   exact EU (Df hT n) hv
  ·cases h2
 ·exact hL x hx
def fC (H:Heap):AV→Option AV
 | .ro _ p _=>some p
 | .sl o off len g=>match live H o g with
  | some ob=>if ob.ids then none else gG ob.p off len
  | none=>none
 | _=>none
theorem WL {H:Heap} {t:Nat} {a p:AV} (h:fC H a = some p):∃ c x,dV H t a = some (.ro c p t,x):=by
 cases a <;> simp only [fC,reduceCtorEq] at h
 case ro c q t' =>
  simp only [atA] at h
  subst h
  exact ⟨c,_,rfl⟩
 case sl o off len g =>
  split at h
  ·rename_i ob hl
   split at h
   ·cases h
   ·rename_i hi
    exact ⟨if ob.z = 0∧ah ob.p = 0 then 0 else 2,⟨[o],[ob.tg]⟩,by simp [dV,dN,hl,hi,h]⟩
  ·cases h
def yx:AV→Bool
 | .bool _ | .int _ _ | .str _ | .gI | .jJ | .iD=>true
 | .agg (.pb _) | .agg (.pi _ _)=>true
 | _=>false
theorem SN {H:Heap} {t:Nat} {a:AV} (h:yx a = true):dV H t a = some (a,⟨[],[]⟩):=by
 cases a <;> simp only [yx,atO] at h <;> try rfl
 case agg p=>cases p <;> simp only [yx,atO] at h <;> rfl
theorem Lc {a:AV} (h:yx a = true):ids a = []∧tags a = []:=by
 cases a <;> simp only [yx,atO] at h <;> try exact ⟨rfl,rfl⟩
 case agg p=>cases p <;> simp only [yx,atO] at h <;> exact ⟨rfl,rfl⟩
def faV (H:Heap) (x:AV) (off:Nat):Option AV :=
 match x with
 | .ptr o i f g=>match live H o g with | some ob=>some (zU ob.p o i f g off) | none=>none
 | .iZ p i f t=>some (zV p i f t off)
 | _=>none
def fvV (C:Ctx) (x:AV) (off ty:Nat):Option AV :=
 match x with
 | .agg (.pc l) =>
  if bf C ty then
   if ((l.drop off).take (sizeT C ty)).length = sizeT C ty then (mX C ty ((l.drop off).take (sizeT C ty))).map .agg else none
  else if okT C ty then l[off]? else none
 | _=>none
theorem bC {C:Ctx} {s:TypeId} {n off:Nat} {ty:TypeId} (h:((fieldsOf C s)[n]?).map (fun fd=>(fd.offset,fd.type)) = some (off,ty)) (hs:(sizeT C ty == 0) = false) (H:Heap) (x:AV) :
  aZ C H s x n = faV H x off:=by
 cases hf:(fieldsOf C s)[n]? with
 | none=>rw [hf] at h;cases h
 | some fd =>
  rw [hf] at h
  simp only [atF,atA,atC] at h
  obtain ⟨rfl,rfl⟩:=h
  have:¬ sizeT C fd.type = 0:=by simpa using hs
  unfold aZ faV
  rw [hf]
  simp only [if_neg this]
  cases x <;> rfl
theorem dH {C:Ctx} {s:TypeId} {n off:Nat} {ty:TypeId} (h:((fieldsOf C s)[n]?).map (fun fd=>(fd.offset,fd.type)) = some (off,ty)) (x:AV) :
  fG C s x n = fvV C x off ty:=by
 cases hf:(fieldsOf C s)[n]? with
 | none=>rw [hf] at h;cases h
 | some fd =>
  rw [hf] at h
  simp only [atF,atA,atC] at h
  obtain ⟨rfl,rfl⟩:=h
  unfold fG fvV
  rw [hf]
  cases x <;> try rfl
  case agg p=>cases p <;> rfl
section
variable {C:Ctx} {f:Nat} {H:Heap}
theorem dW (i:Nat):aG C f H i [] = some ([],[]):=rfl
theorem gV {i:Nat} {a p:AV} {r as:List AV} {xs:List fB} (hrw:C.rw f i = false) (h:fC H a = some p) (hr:aG C f H (i + 1) r = some (as,xs)) :
  ∃ c x,aG C f H i (a :: r) = some (.ro c p (i + 1) :: as,x :: xs):=by
 obtain ⟨c,x,hx⟩:=WL (t:=i + 1) h
 exact ⟨c,x,by simp only [aG,hrw,hx,hr]⟩
theorem fV {i:Nat} {a:AV} {r as:List AV} {xs:List fB} (hrw:C.rw f i = false) (h:yx a = true) (hr:aG C f H (i + 1) r = some (as,xs)) :
  aG C f H i (a :: r) = some (a :: as,⟨[],[]⟩ :: xs):=by
 simp only [aG,hrw,SN h,hr]
theorem dh (H:Heap):reach H aF [] [] = []:=um H [] aF
mutual
theorem gU {ρ:Nat→Nat→Option (Nat × Nat)} {τ:Nat→Nat}:(v:AV)→ids v = []→(∀ t ∈ tags v,τ t = t)→ren ρ τ v = v
 | .ptr ..,h,_=>by simp [ids] at h
 | .sl ..,h,_=>by simp [ids] at h
 | .map ..,h,_=>by simp [ids] at h
 | .ro c p t,_,ht=>by simp only [ren,ht t (by simp [tags])]
 | .iZ p i f t,_,ht=>by simp only [ren,ht t (by simp [tags])]
 | .agg p,h,ht=>by simp only [ids] at h;simp only [tags] at ht;simp only [ren,gU p h ht]
 | .tup l,h,ht=>by simp only [ids] at h;simp only [tags] at ht;simp only [ren,dS l h ht]
 | .fn f l,h,ht=>by simp only [ids] at h;simp only [tags] at ht;simp only [ren,dS l h ht]
 | .pc l,h,ht=>by simp only [ids] at h;simp only [tags] at ht;simp only [ren,dS l h ht]
 | .pr e l,h,ht=>by simp only [ids] at h;simp only [tags] at ht;simp only [ren,dS l h ht]
 | .pm l,h,ht=>by simp only [ids] at h;simp only [tags] at ht;simp only [ren,dS l h ht]
 | .top,_,_=>rfl
 | .bool _,_,_=>rfl
 | .int _ _,_,_=>rfl
 | .str _,_,_=>rfl
 | .gI,_,_=>rfl
 | .jJ,_,_=>rfl
 | .iD,_,_=>rfl
 | .pn,_,_=>rfl
 | .pb _,_,_=>rfl
 | .pi _ _,_,_=>rfl
theorem dS {ρ:Nat→Nat→Option (Nat × Nat)} {τ:Nat→Nat}:(l:List AV)→aC l = []→(∀ t ∈ aX l,τ t = t)→bU ρ τ l = l
 | [],_,_=>rfl
 | a :: r,h,ht=>by
  simp only [aC,au8] at h
  simp only [aX,atM] at ht
  simp only [bU,gU a h.1 (fun t h'=>ht t (.inl h')),dS r h.2 (fun t h'=>ht t (.inr h'))]
end
mutual
theorem gq {ρ ρ':Nat→Nat→Option (Nat × Nat)} {τ τ':Nat→Nat}:(v:AV)→(∀ o g,o ∈ ids v→ρ o g = ρ' o g)→(∀ t ∈ tags v,τ t = τ' t)→ren ρ τ v = ren ρ' τ' v
 | .ptr o i f g,h,_=>by simp only [ren,h o g (by simp [ids])]
 | .sl o a b g,h,_=>by simp only [ren,h o g (by simp [ids])]
 | .map o g,h,_=>by simp only [ren,h o g (by simp [ids])]
 | .ro c p t,_,ht=>by simp only [ren,ht t (by simp [tags])]
 | .iZ p i f t,_,ht=>by simp only [ren,ht t (by simp [tags])]
 | .agg p,h,ht=>by simp only [ids] at h;simp only [tags] at ht;simp only [ren,gq p h ht]
 | .tup l,h,ht=>by simp only [ids] at h;simp only [tags] at ht;simp only [ren,qK l h ht]
 | .fn f l,h,ht=>by simp only [ids] at h;simp only [tags] at ht;simp only [ren,qK l h ht]
 | .pc l,h,ht=>by simp only [ids] at h;simp only [tags] at ht;simp only [ren,qK l h ht]
 | .pr e l,h,ht=>by simp only [ids] at h;simp only [tags] at ht;simp only [ren,qK l h ht]
 | .pm l,h,ht=>by simp only [ids] at h;simp only [tags] at ht;simp only [ren,qK l h ht]
 | .top,_,_=>rfl
 | .bool _,_,_=>rfl
 | .int _ _,_,_=>rfl
 | .str _,_,_=>rfl
 | .gI,_,_=>rfl
 | .jJ,_,_=>rfl
 | .iD,_,_=>rfl
 | .pn,_,_=>rfl
 | .pb _,_,_=>rfl
 | .pi _ _,_,_=>rfl
theorem qK {ρ ρ':Nat→Nat→Option (Nat × Nat)} {τ τ':Nat→Nat}:(l:List AV)→(∀ o g,o ∈ aC l→ρ o g = ρ' o g)→(∀ t ∈ aX l,τ t = τ' t)→bU ρ τ l = bU ρ' τ' l
 | [],_,_=>rfl
 | a :: r,h,ht=>by
  simp only [aC,atM] at h
  simp only [aX,atM] at ht
  simp only [bU,gq a (fun o g h'=>h o g (.inl h')) (fun t h'=>ht t (.inl h')),qK r (fun o g h'=>h o g (.inr h')) (fun t h'=>ht t (.inr h'))]
end
theorem jc (l:List Nat):disjoint l [] = true:=jd.2 fun _ _ h=>by simp at h
theorem OH {aK:List fB} {v:AV} {H1:Heap} (hi:ids v = []) (ht:tags v = []):wrap H [] aK v H1 = some (v,H):=by
 unfold wrap
 simp only [atY,auZ,at6,hi,dh,aut,auj,ht,au,at1,awg,if_true,avJ,strike,bW]
 rw [gU v hi (by simp [ht])]
def fresh (ob:Obj):Obj:={ ob with g:=0,tg:=0 }
def qU:AV→Bool
 | .pb _ | .pi _ _ | .pn=>true
 | _=>false
theorem EY {ρ:Nat→Nat→Option (Nat × Nat)} {τ:Nat→Nat} {p:AV} (h:qU p = true):ren ρ τ p = p:=by
 cases p <;> simp [qU] at h <;> rfl
theorem xK {H1:Heap} {o:Nat} {ob:Obj} (ho:H1[o]? = some (some ob)) (hob:ob.ids = false):reach H1 aF [o] [] = [o]:=by
 show reach H1 (99998 + 1 + 1) [o] [] = [o]
 simp [reach,ho,hob]
theorem WO {aK:List fB} {v:AV} {H1:Heap} {o g:Nat} {ob:Obj} (hi:ids v = [o]) (ht:tags v = []) (hl:live H1 o g = some ob) (hob:ob.ids = false) (hp:qU ob.p = true) (htg:ob.tg = 0) :
  wrap H [] aK v H1 = some (ren (fun o' g'=>if o' = o∧g' = g then some (H.length,0) else none) (fun t=>t) v,H ++ [some (fresh ob)]):=by
 obtain ⟨h1,h2⟩:=bQ.1 hl
 unfold wrap
 have hat:aU H1 o = some ob:=by simp [aU,h1]
 have WQ:dA ob = [0]:=by
  unfold dA
  rw [hob,htg]
  cases hq:ob.p <;> simp [hq,qU] at hp <;> simp
 have hρ:ren (bV H [] [o] H1) (bM aK) v = ren (fun o' g'=>if o' = o∧g' = g then some (H.length,0) else none) (fun t=>t) v:=by
  have key:∀ o' g',o' ∈ ids v→bV H [] [o] H1 o' g' = if o' = o∧g' = g then some (H.length,0) else none:=by
   intro o' g' hm
   rw [hi] at hm
   simp only [at7] at hm
   subst hm
   unfold bV
   by_cases hg:g' = g
   ·subst hg
    rw [hl]
    simp [idxOf]
   ·have:live H1 o' g' = none:=by
     simp only [live,h1]
     rw [if_neg (fun e=>hg (e.symm.trans h2))]
    rw [this]
    simp [hg]
  exact gq v (fun o' g' hm=>key o' g' hm) (by simp [ht])
 simp only [atY,auZ,at6,hi,xK h1 hob,ht,au,at1,auj,hat,WQ,aua,auL,decide_true,avg,aut,strike,bW]
 have h0:dL aK 0 = some 0:=rfl
 simp only [avm,awg,h0,av7,awe,if_true,avt,avJ,dG,at1,aut,strike,atF,atA,atC]
 refine ⟨hρ,?_⟩
 simp only [aT,EY hp,fresh,htg]
 rfl
variable {T:Cf}
theorem Ev1.plain (hT:Below C T) {args:List AV} {fn:Func} {c:Code} {as:List AV} {aK:List fB} {out:Out} {l:List AV}
  (hF:C.P.funcs[f]? = some fn) (hb:fn.body = some c) (hl:aG C f H 0 args = some (as,aK)) (hi:aC as = []) (hn:as.length + 1 < dn)
  (he:Run C T f 0 c (numbered 0 (coerce C as (aI C f))) [] out) (hex:out.ex = .normal∨out.ex = .ret) (hr:aP C out.fr out.H fn.results.toList = some l)
  (hv:ids (aN l) = []) (ht:tags (aN l) = []):Ev1 C f args H (aN l,H):=by
 refine Ev1.of hT hF hb hl ?_ ?_ hex hr ?_
 ·rw [hi,dh]
  simp only [atS,decide_eq_true_eq]
  exact ⟨atT.2 fun x _=>jc x.objs,hn⟩
 ·rw [hi,dh,dS as hi (fun _ _=>rfl)]
  exact he
 ·rw [hi,dh]
  exact OH hv ht
theorem Ev1.fresh (hT:Below C T) {args:List AV} {fn:Func} {c:Code} {as:List AV} {aK:List fB} {out:Out} {l:List AV} {o g:Nat} {ob:Obj}
  (hF:C.P.funcs[f]? = some fn) (hb:fn.body = some c) (hl:aG C f H 0 args = some (as,aK)) (hi:aC as = []) (hn:as.length + 1 < dn)
  (he:Run C T f 0 c (numbered 0 (coerce C as (aI C f))) [] out) (hex:out.ex = .normal∨out.ex = .ret) (hr:aP C out.fr out.H fn.results.toList = some l)
  (hv:ids (aN l) = [o]) (ht:tags (aN l) = []) (ho:live out.H o g = some ob) (hob:ob.ids = false) (hp:qU ob.p = true) (htg:ob.tg = 0) :
  Ev1 C f args H (ren (fun o' g'=>if o' = o∧g' = g then some (H.length,0) else none) (fun t=>t) (aN l),H ++ [some (AM.fresh ob)]):=by
 refine Ev1.of hT hF hb hl ?_ ?_ hex hr ?_
 ·rw [hi,dh]
  simp only [atS,decide_eq_true_eq]
  exact ⟨atT.2 fun x _=>jc x.objs,hn⟩
 ·rw [hi,dh,dS as hi (fun _ _=>rfl)]
  exact he
 ·rw [hi,dh]
  exact WO hv ht ho hob hp htg
end
-- what a call tells of what is abh,whatever the form in which it is handed over
section
variable {C:Ctx} {f:Nat} {H:Heap}
theorem EZ {t:Nat} {a a':AV} {x:fB} (h:dN H t a = some (a',x)) (hi:ids a' = []) :
  ∃ y:fB,(∀ H2,dN H2 t a' = some (a',y))∧(∀ s ∈ y.tags,s = t)∧y.objs = []∧(y.tags = []→x.tags = []∧x.objs = []):=by
 cases a
 case sl o off len g =>
  simp only [dN] at h
  split at h
  ·rename_i ob hl
   split at h
   ·cases h
   ·simp only [atU,atC] at h
    obtain ⟨p,_,rfl,rfl⟩:=h
    exact ⟨⟨[],[t]⟩,fun _=>rfl,by simp,rfl,by simp⟩
  ·cases h
 case ro c p t' =>
  simp only [dN,atA,atC] at h
  obtain ⟨rfl,rfl⟩:=h
  exact ⟨⟨[],[t]⟩,fun _=>rfl,by simp,rfl,by simp⟩
 case iZ p i g t' =>
  simp only [dN,atA,atC] at h
  obtain ⟨rfl,rfl⟩:=h
  exact ⟨⟨[],[t]⟩,fun _=>rfl,by simp,rfl,by simp⟩
 all_goals
  simp only [dN] at h
  split at h
  ·rename_i ht
   simp only [atA,atC] at h
   obtain ⟨rfl,rfl⟩:=h
   exact ⟨⟨[],[]⟩,fun _=>by simp only [dN];rw [if_pos ht],by simp,rfl,fun _=>⟨rfl,rfl⟩⟩
  ·cases h
theorem yU {t:Nat}:∀ {l l':List AV} {x:fB},iq H t l = some (l',x)→aC l' = [] →
  ∃ y:fB,(∀ H2,iq H2 t l' = some (l',y))∧(∀ s ∈ y.tags,s = t)∧y.objs = []∧(y.tags = []→x.tags = []∧x.objs = [])
 | [],l',x,h,_=>by
  simp only [iq,atA,atC] at h
  obtain ⟨rfl,rfl⟩:=h
  exact ⟨⟨[],[]⟩,fun _=>rfl,by simp,rfl,fun _=>⟨rfl,rfl⟩⟩
 | a :: l,l',x,h,hi=>by
  simp only [iq] at h
  split at h
  ·rename_i a' x1 r' x2 e1 e2
   simp only [atA,atC] at h
   obtain ⟨rfl,rfl⟩:=h
   simp only [aC,au8] at hi
   obtain ⟨y1,q1,q2,q3,q4⟩:=EZ e1 hi.1
   obtain ⟨y2,p1,p2,p3,p4⟩:=yU e2 hi.2
   refine ⟨⟨y1.objs ++ y2.objs,y1.tags ++ y2.tags⟩,fun H2=>by simp only [iq,q1,p1],?_,by simp [q3,p3],?_⟩
   ·intro s hs
    rcases atM.1 hs with hs | hs
    ·exact q2 s hs
    ·exact p2 s hs
   ·intro hy
    simp only [au8] at hy
    obtain ⟨h1,h2⟩:=q4 hy.1
    obtain ⟨h3,h4⟩:=p4 hy.2
    simp [h1,h2,h3,h4]
  ·cases h
theorem OI {t:Nat} {a a':AV} {x:fB} (h:dV H t a = some (a',x)) (hi:ids a' = []) :
  ∃ y:fB,(∀ H2,dV H2 t a' = some (a',y))∧(∀ s ∈ y.tags,s = t)∧y.objs = []∧(y.tags = []→x.tags = []∧x.objs = []):=by
 unfold dV at h
 split at h
 ·rename_i l
  cases hl:iq H t l with
  | none=>rw [hl] at h;cases h
  | some z =>
   obtain ⟨l',x'⟩:=z
   rw [hl] at h
   simp only [atF,atA,atC] at h
   obtain ⟨rfl,rfl⟩:=h
   obtain ⟨y,q1,q2⟩:=yU hl (by simpa [ids] using hi)
   exact ⟨y,fun H2=>by simp only [dV,q1 H2,atF],q2⟩
 ·rename_i g l
  cases hl:iq H t l with
  | none=>rw [hl] at h;cases h
  | some z =>
   obtain ⟨l',x'⟩:=z
   rw [hl] at h
   simp only [atF,atA,atC] at h
   obtain ⟨rfl,rfl⟩:=h
   obtain ⟨y,q1,q2⟩:=yU hl (by simpa [ids] using hi)
   exact ⟨y,fun H2=>by simp only [dV,q1 H2,atF],q2⟩
 ·rename_i n1 n2
  obtain ⟨y,q1,q2⟩:=EZ h hi
  refine ⟨y,fun H2=>?_,q2⟩
  unfold dV
  split
  ·rename_i l
   exfalso
   cases a <;> simp only [dN] at h <;> first | (split at h <;> first | (simp only [atA,atC] at h;cases h.1;exact n1 _ rfl) | cases h | skip) | skip
   all_goals simp_all
  ·rename_i g l
   exfalso
   cases a <;> simp only [dN] at h <;> first | (split at h <;> first | (simp only [atA,atC] at h;cases h.1;exact n2 _ _ rfl) | cases h | skip) | skip
   all_goals simp_all
  ·exact q1 H2
theorem yA:∀ {args as:List AV} {i:Nat} {xs:List fB},aG C f H i args = some (as,xs)→aC as = [] →
  ∃ ys:List fB,(∀ H2,aG C f H2 i as = some (as,ys))∧ys.length = xs.length ∧
   ∀ k y,ys[k]? = some y→∃ x,xs[k]? = some x∧(∀ s ∈ y.tags,s = i + k + 1)∧y.objs = []∧(y.tags = []→x.tags = []∧x.objs = [])
 | [],as,i,xs,h,_=>by
  simp only [aG,atA,atC] at h
  obtain ⟨rfl,rfl⟩:=h
  exact ⟨[],fun _=>rfl,rfl,fun k y h=>by simp at h⟩
 | a :: l,as,i,xs,h,hi=>by
  have e:∀ (H:Heap) (a:AV) (l:List AV),ids a = []→aG C f H i (a :: l) = match dV H (i + 1) a,aG C f H (i + 1) l with
    | some (a',x),some (r',y)=>some (a' :: r',x :: y)
    | _,_=>none:=by
   intro H a l ha
   cases a
   case sl o off len g=>simp [ids] at ha
   all_goals
    simp only [aG]
    generalize dV H (i + 1) _ = x
    generalize aG C f H (i + 1) l = y
    cases C.rw f i <;> rcases x with _ | ⟨_,_⟩ <;> rcases y with _ | ⟨_,_⟩ <;> rfl
  simp only [aG] at h
  split at h
  ·rename_i a' x1 r' x2 e1 e2
   simp only [atA,atC] at h
   obtain ⟨rfl,rfl⟩:=h
   simp only [aC,au8] at hi
   have e3:dV H (i + 1) a = some (a',x1):=by
    split at e1
    ·simp only [atA,atC] at e1
     obtain ⟨rfl,rfl⟩:=e1
     simp [ids] at hi
    ·exact e1
   obtain ⟨y1,q1,q2,q3,q4⟩:=OI e3 hi.1
   obtain ⟨ys,p1,p2,p3⟩:=yA e2 hi.2
   refine ⟨y1 :: ys,fun H2=>by rw [e H2 a' r' hi.1,q1,p1],by simp [p2],fun k y hy=>?_⟩
   cases k with
   | zero =>
    simp only [aud,atA] at hy
    subst hy
    exact ⟨x1,rfl,q2,q3,q4⟩
   | succ k =>
    obtain ⟨x,h1,h2,h3⟩:=p3 k y (by simpa using hy)
    exact ⟨x,by simpa using h1,fun s hs=>by rw [h2 s hs];omega,h3⟩
  ·cases h
mutual
theorem jM {ρ:Nat→Nat→Option (Nat × Nat)} {τ:Nat→Nat}:(v:AV)→tags (ren ρ τ v) = (tags v).map τ
 | .ptr o i f g=>by simp only [ren];rcases ρ o g with _ | ⟨_,_⟩ <;> rfl
 | .sl o a b g=>by simp only [ren];rcases ρ o g with _ | ⟨_,_⟩ <;> rfl
 | .map o g=>by simp only [ren];rcases ρ o g with _ | ⟨_,_⟩ <;> rfl
 | .ro c p t=>rfl
 | .iZ p i f t=>rfl
 | .agg p=>by simp only [ren,tags,jM p]
 | .tup l=>by simp only [ren,tags,lK l]
 | .fn f l=>by simp only [ren,tags,lK l]
 | .pc l=>by simp only [ren,tags,lK l]
 | .pr e l=>by simp only [ren,tags,lK l]
 | .pm l=>by simp only [ren,tags,lK l]
 | .top=>rfl
 | .bool _=>rfl
 | .int _ _=>rfl
 | .str _=>rfl
 | .gI=>rfl
 | .jJ=>rfl
 | .iD=>rfl
 | .pn=>rfl
 | .pb _=>rfl
 | .pi _ _=>rfl
theorem lK {ρ:Nat→Nat→Option (Nat × Nat)} {τ:Nat→Nat}:(l:List AV)→aX (bU ρ τ l) = (aX l).map τ
 | []=>rfl
 | a :: r=>by simp only [bU,aX,auA,jM a,lK r]
end
theorem OJ {ρ:Nat→Nat→Option (Nat × Nat)} {τ:Nat→Nat} {g:Nat} (ob:Obj):dA (aT ρ τ g ob) = (dA ob).map τ:=by
 unfold dA aT
 simp only
 split
 ·exact jM ob.p
 ·simp only [aua,avb,true_and]
  cases ob.p <;> simp only [ren,auj]
  case ptr o i f g=>rcases ρ o g with _ | ⟨_,_⟩ <;> rfl
  case sl o a b g=>rcases ρ o g with _ | ⟨_,_⟩ <;> rfl
  case map o g=>rcases ρ o g with _ | ⟨_,_⟩ <;> rfl
  case pm l=>exact lK l
theorem uM {ρ:Nat→Nat→Option (Nat × Nat)} {τ:Nat→Nat} {g:Nat→Nat}:∀ (l:List (Option Obj)),au (l.map fun x=>x.map fun ob=>aT ρ τ (g ob.g) ob) = (au l).map τ
 | []=>rfl
 | none :: r=>by simp only [aua,Option.map_none,au,uM r]
 | some ob :: r=>by simp only [aua,atF,au,auA,OJ,uM r]
theorem sW {t:Nat} (ht:t ≠ 0):∀ {l:List Nat},(∀ s ∈ l,s = t)→l ≠ []→dD l = some t
 | [],_,h=>absurd rfl h
 | a :: [],h,_=>by
  have:=h a (by simp)
  subst this
  simp [dD,dO,ht]
 | a :: b :: r,h,_=>by
  have:=h a (by simp)
  subst this
  have ih:=sW ht (l:=b :: r) (fun s hs=>h s (by simp at hs ⊢;right;exact hs)) (by simp)
  rw [dD,ih]
  simp [dO,ht]
def wC (v:AV):Bool:=(tags v).all (· == 0)
def qV (N:Heap):Bool:=N.all fun | some ob=>ob.tg == 0 && (tags ob.p).all (· == 0) | none=>true
theorem OL {v:AV} (h:wC v = true):∀ t ∈ tags v,t = 0:=fun t ht=>by simpa using atT.1 h t ht
theorem E8 {N:Heap} (h:qV N = true) {ob:Obj} (ho:some ob ∈ N):ob.tg = 0∧∀ t ∈ tags ob.p,t = 0:=by
 have:=atT.1 h _ ho
 simp only [atS,beq_iff_eq,atT] at this
 exact this
theorem Zc {ob:Obj} (h:ob.tg = 0∧∀ t ∈ tags ob.p,t = 0):∀ t ∈ dA ob,t = 0:=by
 intro t ht
 unfold dA at ht
 split at ht
 ·exact h.2 t ht
 ·rcases atX.1 ht with rfl | ht
  ·exact h.1
  ·cases hp:ob.p <;> rw [hp] at ht <;> simp only [avG] at ht
   rw [hp] at h
   exact h.2 t ht
theorem BK:∀ {N:Heap},qV N = true→∀ t ∈ au N,t = 0
 | [],_,t,ht=>by simp [au] at ht
 | none :: r,h,t,ht=>by
  refine BK (N:=r) ?_ t (by simpa [au] using ht)
  simpa [qV] using h
 | some ob :: r,h,t,ht=>by
  simp only [au,atM] at ht
  rcases ht with ht | ht
  ·exact Zc (E8 h (by simp)) t ht
  ·refine BK (N:=r) ?_ t ht
   simp only [qV,avm,atS] at h
   exact h.2
theorem Ev1.abh {args as:List AV} {xs:List fB} {v:AV} {N:Heap} (h:Ev1 C f as [] (v,N)) (hl:aG C f H 0 args = some (as,xs)) (hi:aC as = [])
  (hcv:wC v = true) (hcN:qV N = true):Ev1 C f args H (dw H.length v,H ++ kT H.length N):=by
 have hv:=OL hcv
 have hN:=BK hcN
 obtain ⟨ys,k1,k2,k3⟩:=yA hl hi
 obtain ⟨n0,h0⟩:=h
 have kz:∀ t,bM (ys ++ [⟨[],[]⟩]) t = 0→bM (xs ++ [⟨[],[]⟩]) t = 0:=by
  intro t hb0
  unfold bM dL at hb0 ⊢
  split
  ·rfl
  ·rename_i ht0
   rw [if_neg ht0] at hb0
   by_cases hlt:t - 1 < ys.length
   ·rw [atE hlt,atB hlt] at hb0
    simp only at hb0
    obtain ⟨x,q1,q2,q3,q4⟩:=k3 (t - 1) _ (atB hlt)
    rw [atE (by omega),q1]
    simp only
    have hnil:(ys[t - 1]).tags = []:=by
     apply Classical.byContradiction
     intro hne
     have:=sW (t:=0 + (t - 1) + 1) (by omega) q2 hne
     rw [this] at hb0
     simp at hb0
    rw [(q4 hnil).1]
    rfl
   ·by_cases hlt2:t - 1 = ys.length
    ·have e:(xs ++ [(⟨[],[]⟩:fB)])[t - 1]? = some ⟨[],[]⟩:=by
      rw [atJ (by omega),hlt2,k2]
      simp
     rw [e]
     rfl
    ·have e:(xs ++ [(⟨[],[]⟩:fB)])[t - 1]? = none:=by
      rw [atP]
      simp
      omega
     rw [e]
     rfl
 refine ⟨n0 + 1,fun n hn=>?_⟩
 obtain ⟨n,rfl⟩:∃ i,n = i + 1:=⟨n - 1,by omega⟩
 have h1:=h0 (n + 1) (by omega)
 simp only [kZ,jP] at h1 ⊢
 rw [k1 []] at h1
 rw [hl]
 simp only at h1 ⊢
 rw [hi] at h1 ⊢
 simp only [um,auj,atY] at h1 ⊢
 rw [dS as hi (fun _ _=>rfl)] at h1 ⊢
 split at h1
 ·rename_i hc
  have hc':((xs.all fun x=>disjoint x.objs []) && decide (as.length + 1 < dn)) = true:=by
   simp only [atS] at hc ⊢
   exact ⟨atT.2 fun x _=>jc x.objs,hc.2⟩
  rw [if_pos hc']
  split at h1
  ·cases h1
  ·rename_i u H1 hb
   unfold wrap at h1 ⊢
   simp only [atY,auZ,at6,auj,au,at1] at h1 ⊢
   generalize hnew:(List.filter (fun o=>decide (0≤o)) (reach H1 aF (ids u) [])) = new at h1 ⊢
   split at h1
   ·rename_i hu
    simp only [atA,atC] at h1
    obtain ⟨h2,h3⟩:=h1
    have abj:∀ t,dG (ys ++ [⟨[],[]⟩]) t = []:=by
     intro t
     unfold dG
     split
     ·rfl
     ·split
      ·rename_i x hx
       rcases atM.1 (atL hx) with hx | hx
       ·obtain ⟨k,hk⟩:=List.getElem?_of_mem hx
        obtain ⟨_,_,_,q,_⟩:=k3 k x hk
        exact q
       ·simp only [at7] at hx
        rw [hx]
      ·rfl
    have aoj:∀ l:List Nat,l.flatMap (dG (ys ++ [⟨[],[]⟩])) = []:=fun l=>by simp [abj]
    simp only [aoj,aut] at h3
    simp only [aut,strike,bW,at6] at h3
    -- all tags used are none
    have hz:∀ t ∈ tags u ++ au (new.map (aU H1)),bM (ys ++ [⟨[],[]⟩]) t = 0:=by
     intro t ht
     rcases atM.1 ht with ht | ht
     ·refine hv _ ?_
      rw [← h2,jM]
      exact aub.2 ⟨t,ht,rfl⟩
     ·refine hN _ ?_
      rw [← h3]
      have:=uM (ρ:=bV [] [] new H1) (τ:=bM (ys ++ [⟨[],[]⟩])) (g:=fun _=>0) (new.map (aU H1))
      rw [au4] at this
      rw [show (fun o=>Option.map (aT (bV [] [] new H1) (bM (ys ++ [⟨[],[]⟩])) 0) (aU H1 o)) = ((fun x:Option Obj=>x.map fun ob=>aT (bV [] [] new H1) (bM (ys ++ [⟨[],[]⟩])) 0 ob) ∘ aU H1) from rfl,this]
      exact aub.2 ⟨t,ht,rfl⟩
    have hk:∀ t ∈ tags u ++ au (new.map (aU H1)),dL (xs ++ [⟨[],[]⟩]) t = some 0∧dG (xs ++ [⟨[],[]⟩]) t = []:=by
     intro t ht
     have hb0:=hz t ht
     have hs:=atT.1 hu t ht
     by_cases ht0:t = 0
     ·subst ht0
      exact ⟨rfl,rfl⟩
     ·unfold bM at hb0
      unfold dL at hb0 hs ⊢
      unfold dG
      rw [if_neg ht0] at hb0 hs ⊢
      rw [if_neg ht0]
      by_cases hlt:t - 1 < ys.length
      ·rw [atE hlt,atB hlt] at hb0 hs
       simp only at hb0 hs
       obtain ⟨x,q1,q2,q3,q4⟩:=k3 (t - 1) _ (atB hlt)
       rw [atE (by omega),q1]
       simp only
       have hnil:(ys[t - 1]).tags = []:=by
        apply Classical.byContradiction
        intro hne
        have:=sW (t:=0 + (t - 1) + 1) (by omega) q2 hne
        rw [this] at hb0
        simp at hb0
       obtain ⟨q5,q6⟩:=q4 hnil
       rw [q5,q6]
       exact ⟨rfl,rfl⟩
      ·by_cases hlt2:t - 1 = ys.length
       ·have e:(xs ++ [(⟨[],[]⟩:fB)])[t - 1]? = some ⟨[],[]⟩:=by
         rw [atJ (by omega),hlt2,k2]
         simp
        rw [e]
        exact ⟨rfl,rfl⟩
       ·have e:(ys ++ [(⟨[],[]⟩:fB)])[t - 1]? = none:=by
         rw [atP]
         simp
         omega
        rw [e] at hs
        cases hs
    have hu':((tags u ++ au (new.map (aU H1))).all fun t=>(dL (xs ++ [⟨[],[]⟩]) t).isSome) = true:=atT.2 fun t ht=>by rw [(hk t ht).1];rfl
    rw [if_pos hu']
    have hfl:(tags u ++ au (new.map (aU H1))).flatMap (dG (xs ++ [⟨[],[]⟩])) = []:=avh.2 fun t ht=>(hk t ht).2
    rw [hfl]
    simp only [aut,strike,bW,atA,atC]
    have DV:∀ o g,bV H [] new H1 o g = (bV [] [] new H1 o g).map fun x=>(x.1 + H.length,x.2):=by
     intro o g
     unfold bV
     split
     ·have:=wB new o 0 H.length
      rw [auo] at this
      simp [this,Option.map_map,Function.comp_def]
     ·rfl
    have hτ:∀ t ∈ tags u ++ au (new.map (aU H1)),bM (xs ++ [⟨[],[]⟩]) t = bM (ys ++ [⟨[],[]⟩]) t:=fun t ht=>by
     rw [hz t ht]
     unfold bM
     rw [(hk t ht).1]
     rfl
    refine ⟨?_,?_⟩
    ·rw [← h2,← qJ DV u]
     exact gq u (fun _ _ _=>rfl) fun t ht=>hτ t (auS _ ht)
    ·rw [← h3]
     congr 1
     simp only [kT,au4]
     refine auD fun o ho=>?_
     simp only [Function.comp]
     cases hob:aU H1 o with
     | none=>rfl
     | some ob =>
      have hmem:some (aT (bV [] [] new H1) (bM (ys ++ [⟨[],[]⟩])) 0 ob) ∈ N:=by
       rw [← h3]
       exact aub.2 ⟨o,ho,by rw [hob];rfl⟩
      obtain ⟨c1,c2⟩:=E8 hcN hmem
      simp only [aT] at c1 c2
      have e1:=qJ (τ:=bM (ys ++ [⟨[],[]⟩])) DV ob.p
      simp only [dw] at e1
      have e2:ren (bV H [] new H1) (bM (xs ++ [⟨[],[]⟩])) ob.p = ren (bV H [] new H1) (bM (ys ++ [⟨[],[]⟩])) ob.p:=by
       refine gq ob.p (fun _ _ _=>rfl) fun t ht=>?_
       have:bM (ys ++ [⟨[],[]⟩]) t = 0:=c2 _ (by rw [jM];exact aub.2 ⟨t,ht,rfl⟩)
       rw [this,kz t this]
      simp only [atF,aT,atA]
      rw [← e1,e2,kz _ c1,c1]
   ·cases h1
 ·cases h1
def zW (C:Ctx) (S:Nat→List AV→Option (AV × Heap)):Cf:=fun f args H =>
 match aG C f H 0 args with
 | some (as,_)=>if (aC as).isEmpty then match S f as with
   | some (v,N)=>if (wC v && qV N) = true then some (dw H.length v,H ++ kT H.length N) else none
   | none=>none
  else none
 | none=>none
theorem wE {S:Nat→List AV→Option (AV × Heap)} (hS:∀ f as v N,S f as = some (v,N)→Ev1 C f as [] (v,N)):Below C (zW C S):=by
 intro f args H r h
 unfold zW at h
 split at h
 ·rename_i as xs hl
  split at h
  ·rename_i hi
   split at h
   ·rename_i v N hs
    split at h
    ·rename_i hc
     simp only [atS] at hc
     rw [← atK h]
     exact Ev1.abh (hS f as v N hs) hl (avF.1 hi) hc.1 hc.2
    ·cases h
   ·cases h
  ·cases h
 ·cases h
def ae9 (L:List Row1) (f:Nat) (as:List AV):Option (AV × Heap):=(L.find? fun e=>e.f == f && eqL e.args as).map fun e=>(e.res,e.N)
def rowT (C:Ctx) (L:List Row1):Cf:=fun f args H=>if (L.any fun e=>e.f == f) then zW C (ae9 L) f args H else none
theorem Fa {L:List Row1} (h:kU C L):Below C (rowT C L):=by
 intro f args H r hr
 unfold rowT at hr
 split at hr
 ·refine wE (fun f as v N hs=>?_) f args H r hr
  unfold ae9 at hs
  obtain ⟨e,he,h1⟩:=atU.1 hs
  simp only [atC] at h1
  obtain ⟨rfl,rfl⟩:=h1
  have h3:=List.find?_some he
  simp only [atS,beq_iff_eq] at h3
  rw [← h3.1,← yV _ _ h3.2]
  exact (h e (List.mem_of_find?_eq_some he)).1
 ·cases hr
end
def jK (id:Nat) (o:Out):Out:=match o.ex with
 | .exit i=>if i = id then ⟨.normal,o.fr,o.H⟩ else o
 | _=>o
section
variable {C:Ctx} {T:Cf} {f m:Nat} {fr:Frame} {H:Heap} {out:Out}
theorem Run.block' {id:Nat} {c:Code} {o:Out} (h:Run C T f m c fr H o):Run C T f m (.block id c) fr H (jK id o):=by
 obtain ⟨ex,fr',H'⟩:=o
 cases ex with
 | normal=>exact Run.block h (fun e=>by cases e)
 | ret=>exact Run.block h (fun e=>by cases e)
 | exit i =>
  by_cases hi:i = id
  ·subst hi
   simp only [jK,if_true]
   exact Run.iL h
  ·simp only [jK,hi,if_false]
   exact Run.block h (by simpa using hi)
theorem Run.seq' {a b:Code} {o:Out} (h:Run C T f m a fr H o) (h1:∀ fr' H',o = ⟨.normal,fr',H'⟩→Run C T f m b fr' H' out) (h2:o.ex ≠ .normal→o = out):Run C T f m (.seq a b) fr H out:=by
 obtain ⟨ex,fr',H'⟩:=o
 cases ex with
 | normal=>exact Run.seq h (h1 fr' H' rfl)
 | ret=>have:=h2 (by simp);subst this;exact Run.bI h (by simp)
 | exit i=>have:=h2 (by simp);subst this;exact Run.bI h (by simp)
end
attribute [go_sem] exec lJ zX kM step fP aJ eG iy ay jL iY ak su jf sD cO Fb jQ aO uj kG lenV GI unV arith JD zY lM live upd JE SQ Ld GK retag wF qj sF oV dD dO tags ids scalar aS vG faV fvV zU zV
theorem OM {k:IntKind} (hk:k.signed = false) {n:Int} (h0:0≤n) (h1:n < 2 ^ k.bits):k.wrap n = n:=by
 simp only [IntKind.wrap,hk,au7,atO,if_false]
 exact avi h0 h1
theorem wrap_u8 {n:Int} (h0:0≤n) (h1:n < 256):IntKind.u8.wrap n = n:=OM rfl h0 (by exact h1)
theorem wrap_u32 {n:Int} (h0:0≤n) (h1:n < 4294967296):IntKind.u32.wrap n = n:=OM rfl h0 (by exact h1)
theorem wrap_u64 {n:Int} (h0:0≤n) (h1:n < 18446744073709551616):IntKind.u64.wrap n = n:=OM rfl h0 (by exact h1)
theorem wrap_i64 {n:Int} (h0:-9223372036854775808≤n) (h1:n < 9223372036854775808):IntKind.i64.wrap n = n:=by
 have e1:IntKind.i64.bits = 64:=rfl
 have e2:IntKind.i64.signed = true:=rfl
 simp only [IntKind.wrap,e1,e2,avf,decide_eq_true_eq]
 have p64:(2:Int) ^ 64 = 18446744073709551616:=rfl
 have p63:(2:Int) ^ (64 - 1) = 9223372036854775808:=rfl
 rw [p64,p63]
 by_cases hn:0≤n
 ·rw [avi hn (by omega),if_neg (by omega)]
 ·have:n % 18446744073709551616 = n + 18446744073709551616:=by omega
  rw [this,if_pos (by omega)]
  omega
end Go.AM
namespace Go.AM
open Go.ChangeShapes Go.WideShapes Go.ChangeAt Go.RowKit
section
variable {H:Type} {enc:TypeId × Value→H} {P:Program} {W:World}
theorem Le {b t:Nat} (hb:b < W.heap.size) (ht:t ≠ 0):NT (start W) (T0 W.heap.size) t b:=⟨.inr ht,xH W b,hb⟩
theorem afa {n:Int} (h:(Lit.int .u8 n).wf = true):0≤n∧n < 256:=by
 have:IntKind.u8.min≤n∧n≤IntKind.u8.max:=by simpa [Lit.wf] using h
 have e1:IntKind.u8.min = 0:=rfl
 have e2:IntKind.u8.max = 255:=rfl
 omega
theorem WR {c:Nat} {l:List UInt8} {ad:Option Addr} {cap:Nat} (hs:zZ c l.length ad cap)
  (hc:∀ a,ad = some a→l.length ≠ 0→a.spot = none∧a.block < W.heap.size∧∀ j b,l[j]? = some b→W.cell? ⟨a.block,a.off + j,none⟩ = some (.int .u8 (b.toNat:Int))) :
  aA (start W) (T0 W.heap.size) (.ro c (.pb l) 1) (.slice ad l.length cap):=by
 simp only [aA,aH,aQ,RV]
 refine ⟨ad,cap,rfl,hs,fun a ha hn=>?_⟩
 obtain ⟨h1,h2,h3⟩:=hc a ha hn
 exact ⟨h1,Le h2 (by omega),by simp only [RP];exact h3⟩
theorem WS {c:Nat} {k:IntKind} {l:List Int} {ad:Option Addr} {cap:Nat} (hs:zZ c l.length ad cap)
  (hc:∀ a,ad = some a→l.length ≠ 0→a.spot = none∧a.block < W.heap.size∧∀ j b,l[j]? = some b→W.cell? ⟨a.block,a.off + j,none⟩ = some (.int k b)) :
  aA (start W) (T0 W.heap.size) (.ro c (.pi k l) 1) (.slice ad l.length cap):=by
 simp only [aA,aH,aQ,RV]
 refine ⟨ad,cap,rfl,hs,fun a ha hn=>?_⟩
 obtain ⟨h1,h2,h3⟩:=hc a ha hn
 exact ⟨h1,Le h2 (by omega),by simp only [RP];exact h3⟩
theorem WT {base:Nat} {t e:TypeId} {k:IntKind} {v:Value} {d:DataW H} {ps:List MemPlace} (ht:P.underlying t = some (.slice e)) (he:P.underlying e = some (.int k)) (hc:P.cellsOf e = 1)
  (hval:Value.okWide P W .any base t v) (hd:DataW.Trod enc P W 0 (fun _=>true) true t v d ps) :
  ∃ (c:Nat) (l:List Int),l.length≤maxLen∧(∀ x ∈ l,(Lit.int k x).wf = true)∧aA (start W) (T0 W.heap.size) (.ro c (.pi k l) 1) v:=by
 obtain ⟨a0,len0,cap0,rfl⟩:=okWide_slice ht hval
 obtain ⟨fuel,hf⟩:=hd
 rcases Go.ChangeShapes.open_ints ht he hc hf with ⟨hcs,_⟩ | ⟨a,len,cap,zs,hcs,_,hlc,hcm,hzl,_,hcell,hwf⟩
 ·simp [Value.cells] at hcs
  obtain ⟨rfl,rfl,rfl⟩:=hcs
  exact ⟨0,[],by simp,by simp,WS (l:=[]) ⟨atG _,fun _=>⟨rfl,rfl⟩,fun h=>absurd rfl h,fun h=>by simp at h⟩ (fun a ha=>by cases ha)⟩
 ·simp [Value.cells] at hcs
  obtain ⟨rfl,rfl,rfl⟩:=hcs
  simp only [if_true] at hzl
  have hlen:(zs.take len0).length = len0:=by simp;omega
  refine ⟨2,zs.take len0,by rw [hlen];omega,fun x hx=>hwf x (List.mem_of_mem_take hx),?_⟩
  have:=WS (W:=W) (c:=2) (k:=k) (l:=zs.take len0) (ad:=some a) (cap:=cap0) ⟨by rw [hlen];exact hlc,fun h=>by simp at h,fun _=>rfl,fun h=>by simp at h⟩ (by
   intro a' ha' hn
   simp only [atA] at ha'
   subst ha'
   rw [hlen] at hn
   have h0:=hcell 0 (by omega)
   have hsp:a.spot = none:=by
    have:=World.cell?_spot h0
    simpa [Addr.add] using this
   obtain ⟨b,off,spot⟩:=a
   simp only at hsp
   subst hsp
   refine ⟨rfl,?_,fun j x hx=>?_⟩
   ·rw [add_plain] at h0
    exact block_lt_of_cell h0
   ·have hjl:j < len0:=by
     have:=(atD.1 hx).1
     simp at this
     omega
    rw [avH hjl] at hx
    have:=hcell j (by omega)
    rw [add_plain] at this
    rw [this,atH,hx,aus])
  rw [hlen] at this
  exact this
theorem JF {base:Nat} {t:TypeId} {k:IntKind} {v:Value} {d:DataW H} {ps:List MemPlace} (ht:P.underlying t = some (.int k)) (hval:Value.okWide P W .any base t v) (hd:DataW.Trod enc P W 0 (fun _=>true) true t v d ps) :
  ∃ n,(Lit.int k n).wf = true∧aA (start W) (T0 W.heap.size) (.int k n) v:=by
 obtain ⟨n,rfl,_,_,h⟩:=open_int ht hval hd
 exact ⟨n,h,by simp [aA,aH,aQ,RV]⟩
end
def rt (t:Nat) (p:AV):AV:=ren (fun _ _=>none) (fun _=>t) p
def bk (n t:Nat) (k:Nat):Nat:=if k = n then t else 0
theorem lS {H:Heap} {o:Nat} {ob:Obj} (ho:H[o]? = some (some ob)) (hi:ids ob.p = []):reach H aF [o] [] = [o]:=by
 show reach H (99998 + 1 + 1) [o] [] = [o]
 simp [reach,ho,hi]
theorem OO {H:Heap} {o o2:Nat} {ob ob2:Obj} (ho:H[o]? = some (some ob)) (hi:ids ob.p = []) (ho2:H[o2]? = some (some ob2)) (hi2:ids ob2.p = []) (hne:o2 ≠ o):reach H aF [o,o2] [] = [o,o2]:=by
 show reach H (99997 + 1 + 1 + 1) [o,o2] [] = [o,o2]
 simp [reach,ho,hi,ho2,hi2,hne]
theorem OQ {p:AV} (h:qU p = true):ids p = []:=by cases p <;> simp [qU] at h <;> rfl
section
variable {C:Ctx} {f:Nat} {H:Heap} {T:Cf}
theorem QI {ρ:Nat→Nat→Option (Nat × Nat)} {τ:Nat→Nat} {p:AV} (h:ids p = []):ids (ren ρ τ p) = []:=by
 have h1:ren ρ τ p = ren (fun o g=>some (o,g)) τ p:=gq p (fun o g ho=>by rw [h] at ho;cases ho) (fun _ _=>rfl)
 rw [h1]
 exact (qW p).trans h
where
 qW:(p:AV)→ids (ren (fun o g=>some (o,g)) τ p) = ids p
  | .ptr .. | .sl .. | .map .. | .ro .. | .iZ .. | .top | .bool _ | .int .. | .str _ | .gI | .jJ | .iD | .pn | .pb _ | .pi ..=>rfl
  | .agg p=>by simp only [ren,ids];exact qW p
  | .tup l=>by simp only [ren,ids];exact lW l
  | .fn _ l=>by simp only [ren,ids];exact lW l
  | .pc l=>by simp only [ren,ids];exact lW l
  | .pr _ l=>by simp only [ren,ids];exact lW l
  | .pm l=>by simp only [ren,ids];exact lW l
 lW:(l:List AV)→aC (bU (fun o g=>some (o,g)) τ l) = aC l
  | []=>rfl
  | a :: r=>by simp only [bU,aC];rw [qW a,lW r]
theorem Ev1.box (hT:Below C T) {o g:Nat} {ob ob1:Obj} {xs ys:List AV} {aK:List fB} {fn:Func} {c:Code} {out:Out} {l:List AV} {rest:Heap} {n t:Nat}
  (hF:C.P.funcs[f]? = some fn) (hb:fn.body = some c) (hrw:C.rw f 0 = false) (ho:H[o]? = some (some ob)) (hg:ob.g = g) (hi:ids ob.p = [])
  (hl:aG C f H 1 xs = some (ys,aK)) (hiy:aC ys = []) (hob:aK.all (fun x=>disjoint x.objs [o]) = true) (hn:ys.length + 2 = n) (hng:n < dn)
  (hj:dD (dA ob) = some t)
  (he:Run C T f 1 c (numbered 0 (coerce C (.ptr 0 0 0 0 :: ys) (aI C f))) [some { ob with p:=rt n ob.p,g:=0,tg:=n }] out)
  (hex:out.ex = .normal∨out.ex = .ret) (hr:aP C out.fr out.H fn.results.toList = some l)
  (hH:out.H = some ob1 :: rest) (abk:ob1.ids = true) (hi1:ids ob1.p = []) (hv:ids (aN l) = [])
  (hu:∀ k ∈ tags (aN l) ++ dA ob1,k = 0∨k = n) (ht1:ob1.tg = 0∨ob1.tg = n) :
  Ev1 C f (.ptr o 0 0 g :: xs) H (ren (fun _ _=>none) (bk n t) (aN l),upd H o (some { ob1 with p:=ren (fun _ _=>none) (bk n t) ob1.p,g:=g + (if ob1.g = 0 then 0 else 1),tg:=bk n t ob1.tg })):=by
 have hlive:live H o g = some ob:=by simp [live,ho,hg]
 have hat:aU H o = some ob:=by simp [aU,ho]
 have hl':aG C f H 0 (.ptr o 0 0 g :: xs) = some (.ptr o 0 0 g :: ys,⟨[],[]⟩ :: aK):=by
  simp only [aG,hrw]
  simp [dV,dN,tags,hl]
 have hre:reach H aF (aC (.ptr o 0 0 g :: ys)) [] = [o]:=by
  rw [show aC (.ptr o 0 0 g :: ys) = [o] by simp [aC,ids,hiy]]
  exact lS ho hi
 have hin:dI H [o] o g = some (0,0):=by simp [dI,hlive,idxOf]
 have hlen:=qG hl
 have hn0:0 < n:=by omega
 refine Ev1.of (out:=out) (l:=l) hT hF hb hl' ?_ ?_ hex hr ?_
 ·rw [hre]
  simp only [avm,atS,decide_eq_true_eq,atV]
  exact ⟨⟨rfl,hob⟩,by omega⟩
 ·rw [hre]
  have e1:bU (dI H [o]) (fun t=>t) (.ptr o 0 0 g :: ys) = .ptr 0 0 0 0 :: ys:=by
   simp only [bU,ren,hin]
   rw [dS ys hiy (fun _ _=>rfl)]
  have e2:([o].map fun o'=>(aU H o').map (aT (dI H [o]) (fun _=>(AV.ptr o 0 0 g :: ys).length + 1) 0)) = [some { ob with p:=rt n ob.p,g:=0,tg:=n }]:=by
   simp only [aua,auj,hat,atF,aT,atV]
   rw [show ys.length + 1 + 1 = n by omega]
   have e:ren (dI H [o]) (fun _=>n) ob.p = rt n ob.p:=gq ob.p (fun o g h=>by rw [hi] at h;cases h) (fun _ _=>rfl)
   rw [e]
  rw [e1,e2]
  exact he
 ·rw [hre]
  unfold wrap
  have h0:out.H[0]? = some (some ob1):=by rw [hH];rfl
  have Ew:aU out.H 0 = some ob1:=by simp [aU,h0]
  have abl:reach out.H aF (List.range [o].length ++ ids (aN l)) [] = [0]:=by
   rw [hv]
   exact lS h0 hi1
  have hbt:∀ k,k = 0∨k = n→dL (⟨[],[]⟩ :: aK ++ [⟨[],au ([o].map (aU H))⟩]) k = some (bk n t k):=by
   rintro k (rfl | rfl)
   ·unfold dL bk
    rw [if_pos rfl,if_neg (by omega)]
   ·unfold dL bk
    rw [if_neg (by omega),if_pos rfl]
    rw [aum,show k - 1 = (k - 2) + 1 by omega,atN,atJ (by omega),show k - 2 - aK.length = 0 by omega]
    simp [au,hat,hj]
  have hgo:∀ k,k = 0∨k = n→dG (⟨[],[]⟩ :: aK ++ [⟨[],au ([o].map (aU H))⟩]) k = []:=by
   rintro k (rfl | rfl)
   ·rfl
   ·unfold dG
    rw [if_neg (by omega)]
    rw [aum,show k - 1 = (k - 2) + 1 by omega,atN,atJ (by omega),show k - 2 - aK.length = 0 by omega]
    rfl
  generalize (⟨[],[]⟩ :: aK ++ [⟨[],au ([o].map (aU H))⟩]:List fB) = L at *
  have hbT:∀ k,k = 0∨k = n→bM L k = bk n t k:=fun k hk=>by unfold bM;rw [hbt k hk];rfl
  simp only [abl]
  rw [show ([0].filter fun o'=>decide ([o].length≤o')) = [] from rfl]
  have hus:(tags (aN l) ++ au ((List.range [o].length).map (aU out.H)) ++ au (([]:List Nat).map (aU out.H))) = tags (aN l) ++ dA ob1:=by
   simp [au,Ew,List.range_succ]
  rw [hus]
  rw [if_pos (atT.2 fun k hk=>by rw [hbt k (hu k hk)];rfl)]
  rw [show (tags (aN l) ++ dA ob1).flatMap (dG L) = [] from avh.2 fun k hk=>hgo k (hu k hk)]
  simp only [aut,strike,auj,at1,bW,Ew,atF,atA,atC]
  refine ⟨gq _ (fun o g h=>by rw [hv] at h;cases h) (fun k hk=>hbT k (hu k (auS _ hk))),?_⟩
  have hgb:fO H [o] 0 ob1.g = g + (if ob1.g = 0 then 0 else 1):=by simp [fO,hat,hg]
  rw [hgb]
  congr 2
  simp only [aT]
  rw [hbT _ ht1]
  congr 1
  refine gq _ (fun o g h=>by rw [hi1] at h;cases h) fun k hk=>?_
  unfold dA at hu
  rw [if_pos abk] at hu
  exact hbT k (hu k (avd _ hk))
theorem Ev1.aok (hT:Below C T) {o g:Nat} {ob ob1:Obj} {xs ys:List AV} {aK:List fB} {fn:Func} {c:Code} {out:Out} {l:List AV} {rest:Heap} {n t o1 g1:Nat} {ob2:Obj}
  (hF:C.P.funcs[f]? = some fn) (hb:fn.body = some c) (hrw:C.rw f 0 = false) (ho:H[o]? = some (some ob)) (hg:ob.g = g) (hi:ids ob.p = [])
  (hl:aG C f H 1 xs = some (ys,aK)) (hiy:aC ys = []) (hob:aK.all (fun x=>disjoint x.objs [o]) = true) (hn:ys.length + 2 = n) (hng:n < dn)
  (hj:dD (dA ob) = some t)
  (he:Run C T f 1 c (numbered 0 (coerce C (.ptr 0 0 0 0 :: ys) (aI C f))) [some { ob with p:=rt n ob.p,g:=0,tg:=n }] out)
  (hex:out.ex = .normal∨out.ex = .ret) (hr:aP C out.fr out.H fn.results.toList = some l)
  (hH:out.H = some ob1 :: rest) (abk:ob1.ids = true) (hi1:ids ob1.p = []) (hv:ids (aN l) = [o1]) (ho1:live out.H o1 g1 = some ob2) (hne:o1 ≠ 0) (aol:ob2.ids = false) (hp2:qU ob2.p = true) (afb:ob2.tg = 0)
  (hu:∀ k ∈ tags (aN l) ++ dA ob1,k = 0∨k = n) (ht1:ob1.tg = 0∨ob1.tg = n) :
  Ev1 C f (.ptr o 0 0 g :: xs) H (ren (fun o' g'=>if o' = o1∧g' = g1 then some (H.length,0) else none) (bk n t) (aN l),upd H o (some { ob1 with p:=ren (fun _ _=>none) (bk n t) ob1.p,g:=g + (if ob1.g = 0 then 0 else 1),tg:=bk n t ob1.tg }) ++ [some (AM.fresh ob2)]):=by
 have hlive:live H o g = some ob:=by simp [live,ho,hg]
 have hat:aU H o = some ob:=by simp [aU,ho]
 have hl':aG C f H 0 (.ptr o 0 0 g :: xs) = some (.ptr o 0 0 g :: ys,⟨[],[]⟩ :: aK):=by
  simp only [aG,hrw]
  simp [dV,dN,tags,hl]
 have hre:reach H aF (aC (.ptr o 0 0 g :: ys)) [] = [o]:=by
  rw [show aC (.ptr o 0 0 g :: ys) = [o] by simp [aC,ids,hiy]]
  exact lS ho hi
 have hin:dI H [o] o g = some (0,0):=by simp [dI,hlive,idxOf]
 have hlen:=qG hl
 have hn0:0 < n:=by omega
 refine Ev1.of (out:=out) (l:=l) hT hF hb hl' ?_ ?_ hex hr ?_
 ·rw [hre]
  simp only [avm,atS,decide_eq_true_eq,atV]
  exact ⟨⟨rfl,hob⟩,by omega⟩
 ·rw [hre]
  have e1:bU (dI H [o]) (fun t=>t) (.ptr o 0 0 g :: ys) = .ptr 0 0 0 0 :: ys:=by
   simp only [bU,ren,hin]
   rw [dS ys hiy (fun _ _=>rfl)]
  have e2:([o].map fun o'=>(aU H o').map (aT (dI H [o]) (fun _=>(AV.ptr o 0 0 g :: ys).length + 1) 0)) = [some { ob with p:=rt n ob.p,g:=0,tg:=n }]:=by
   simp only [aua,auj,hat,atF,aT,atV]
   rw [show ys.length + 1 + 1 = n by omega]
   have e:ren (dI H [o]) (fun _=>n) ob.p = rt n ob.p:=gq ob.p (fun o g h=>by rw [hi] at h;cases h) (fun _ _=>rfl)
   rw [e]
  rw [e1,e2]
  exact he
 ·rw [hre]
  unfold wrap
  have h0:out.H[0]? = some (some ob1):=by rw [hH];rfl
  have Ew:aU out.H 0 = some ob1:=by simp [aU,h0]
  obtain ⟨h1,h2⟩:=bQ.1 ho1
  have abl:reach out.H aF (List.range [o].length ++ ids (aN l)) [] = [0,o1]:=by
   rw [hv]
   exact OO h0 hi1 h1 (OQ hp2) hne
  have afc:aU out.H o1 = some ob2:=by simp [aU,h1]
  have hbt:∀ k,k = 0∨k = n→dL (⟨[],[]⟩ :: aK ++ [⟨[],au ([o].map (aU H))⟩]) k = some (bk n t k):=by
   rintro k (rfl | rfl)
   ·unfold dL bk
    rw [if_pos rfl,if_neg (by omega)]
   ·unfold dL bk
    rw [if_neg (by omega),if_pos rfl]
    rw [aum,show k - 1 = (k - 2) + 1 by omega,atN,atJ (by omega),show k - 2 - aK.length = 0 by omega]
    simp [au,hat,hj]
  have hgo:∀ k,k = 0∨k = n→dG (⟨[],[]⟩ :: aK ++ [⟨[],au ([o].map (aU H))⟩]) k = []:=by
   rintro k (rfl | rfl)
   ·rfl
   ·unfold dG
    rw [if_neg (by omega)]
    rw [aum,show k - 1 = (k - 2) + 1 by omega,atN,atJ (by omega),show k - 2 - aK.length = 0 by omega]
    rfl
  generalize (⟨[],[]⟩ :: aK ++ [⟨[],au ([o].map (aU H))⟩]:List fB) = L at *
  have hbT:∀ k,k = 0∨k = n→bM L k = bk n t k:=fun k hk=>by unfold bM;rw [hbt k hk];rfl
  simp only [abl]
  rw [show ([0,o1].filter fun o'=>decide ([o].length≤o')) = [o1] by
   simp only [atV,atY]
   rw [List.filter_cons_of_neg (by simp),avg (by simp;omega),aut]]
  have hus:(tags (aN l) ++ au ((List.range [o].length).map (aU out.H)) ++ au ([o1].map (aU out.H))) = tags (aN l) ++ dA ob1 ++ [0]:=by
   have:dA ob2 = [0]:=by unfold dA;rw [aol,afb];cases hq:ob2.p <;> simp [hq,qU] at hp2 <;> simp
   simp [au,Ew,afc,this,List.range_succ]
  rw [hus]
  have hu2:∀ k ∈ tags (aN l) ++ dA ob1 ++ [0],k = 0∨k = n:=fun k hk=>by
   rcases atM.1 hk with hk | hk
   ·exact hu k hk
   ·simp at hk;exact .inl hk
  rw [if_pos (atT.2 fun k hk=>by rw [hbt k (hu2 k hk)];rfl)]
  rw [show (tags (aN l) ++ dA ob1 ++ ([0]:List Nat)).flatMap (dG L) = [] from avh.2 fun k hk=>hgo k (hu2 k hk)]
  simp only [aut,strike,aua,auj,bW,Ew,afc,atF,atA,atC]
  have DV:∀ o' g',o' ∈ [o1]→bV H [o] [o1] out.H o' g' = if o' = o1∧g' = g1 then some (H.length,0) else none:=by
   intro o' g' hm
   simp only [at7] at hm
   subst hm
   unfold bV
   by_cases hgg:g' = g1
   ·subst hgg
    rw [ho1]
    have:¬ (o' < [o].length):=by simp;omega
    simp only [if_neg this]
    simp [idxOf]
   ·have:live out.H o' g' = none:=by
     simp only [live,h1]
     rw [if_neg (fun e=>hgg (e.symm.trans h2))]
    rw [this]
    simp [hgg]
  refine ⟨gq _ (fun o' g' h=>DV o' g' (by rw [← hv];exact h)) (fun k hk=>hbT k (hu k (auS _ hk))),?_⟩
  have hgb:fO H [o] 0 ob1.g = g + (if ob1.g = 0 then 0 else 1):=by simp [fO,hat,hg]
  rw [hgb]
  have e2:aT (bV H [o] [o1] out.H) (bM L) 0 ob2 = AM.fresh ob2:=by
   simp only [aT,EY hp2,AM.fresh,afb,hbT 0 (.inl rfl)]
   unfold bk;rw [if_neg (by omega)]
  rw [e2]
  congr 3
  simp only [aT]
  rw [hbT _ ht1]
  congr 1
  refine gq _ (fun o g h=>by rw [hi1] at h;cases h) fun k hk=>?_
  unfold dA at hu
  rw [if_pos abk] at hu
  exact hbT k (hu k (avd _ hk))
end
end Go.AM
namespace Go.AM
open Classical in
noncomputable def evT (C:Ctx):Cf:=fun f xs H=>if h:∃ r,Ev1 C f xs H r then some (Classical.choose h) else none
theorem Ev1.one {C:Ctx} {f:Nat} {xs:List AV} {H:Heap} {r r2:AV × Heap} (h:Ev1 C f xs H r) (h2:Ev1 C f xs H r2):r = r2:=by
 obtain ⟨n,h⟩:=h
 obtain ⟨n2,h2⟩:=h2
 have e:=h (max n n2) (by omega)
 rw [h2 (max n n2) (by omega)] at e
 exact (atK e).symm
theorem bJ (C:Ctx):Below C (evT C):=by
 intro f xs H r h
 unfold evT at h
 split at h
 ·rename_i hx
  rw [← atK h]
  exact Classical.choose_spec hx
 ·cases h
theorem dQ {C:Ctx} {f:Nat} {xs:List AV} {H:Heap} {r:AV × Heap} (h:Ev1 C f xs H r):evT C f xs H = some r:=by
 have hx:∃ r,Ev1 C f xs H r:=⟨r,h⟩
 unfold evT
 rw [dif_pos hx]
 exact congrArg some (Ev1.one (Classical.choose_spec hx) h)
section
variable {C:Ctx} {f:Nat} {H:Heap}
theorem SS {aK:List fB} {v:AV} {H1:Heap} {o g:Nat} {ob:Obj} (hi:ids v = [o]) (ht:tags v = []) (hl:live H1 o g = some ob) (hob:ob.ids = false) (hp:ids ob.p = []) (hp2:tags ob.p = []) (hto:dA ob = [0]) (htg:ob.tg = 0) :
  wrap H [] aK v H1 = some (ren (fun o' g'=>if o' = o∧g' = g then some (H.length,0) else none) (fun t=>t) v,H ++ [some (fresh ob)]):=by
 obtain ⟨h1,h2⟩:=bQ.1 hl
 unfold wrap
 have hat:aU H1 o = some ob:=by simp [aU,h1]
 have hρ:ren (bV H [] [o] H1) (bM aK) v = ren (fun o' g'=>if o' = o∧g' = g then some (H.length,0) else none) (fun t=>t) v:=by
  have key:∀ o' g',o' ∈ ids v→bV H [] [o] H1 o' g' = if o' = o∧g' = g then some (H.length,0) else none:=by
   intro o' g' hm
   rw [hi] at hm
   simp only [at7] at hm
   subst hm
   unfold bV
   by_cases hg:g' = g
   ·subst hg
    rw [hl]
    simp [idxOf]
   ·have:live H1 o' g' = none:=by
     simp only [live,h1]
     rw [if_neg (fun e=>hg (e.symm.trans h2))]
    rw [this]
    simp [hg]
  exact gq v (fun o' g' hm=>key o' g' hm) (by simp [ht])
 simp only [atY,auZ,at6,hi,xK h1 hob,ht,au,at1,auj,hat,hto,aua,auL,decide_true,avg,aut,strike,bW]
 have h0:dL aK 0 = some 0:=rfl
 simp only [avm,awg,h0,av7,awe,if_true,avt,avJ,dG,at1,aut,strike,atF,atA,atC]
 refine ⟨hρ,?_⟩
 have hr:ren (bV H [] [o] H1) (bM aK) ob.p = ob.p:=gU ob.p hp (fun t h=>by rw [hp2] at h;cases h)
 simp only [aT,hr,AM.fresh,htg]
 rfl
variable {T:Cf}
theorem Ev1.abm (hT:Below C T) {args:List AV} {fn:Func} {c:Code} {as:List AV} {aK:List fB} {out:Out} {l:List AV} {o g:Nat} {ob:Obj}
  (hF:C.P.funcs[f]? = some fn) (hb:fn.body = some c) (hl:aG C f H 0 args = some (as,aK)) (hi:aC as = []) (hn:as.length + 1 < dn)
  (he:Run C T f 0 c (numbered 0 (coerce C as (aI C f))) [] out) (hex:out.ex = .normal∨out.ex = .ret) (hr:aP C out.fr out.H fn.results.toList = some l)
  (hv:ids (aN l) = [o]) (ht:tags (aN l) = []) (ho:live out.H o g = some ob) (hob:ob.ids = false) (hp:ids ob.p = []) (hp2:tags ob.p = []) (hto:dA ob = [0]) (htg:ob.tg = 0) :
  Ev1 C f args H (ren (fun o' g'=>if o' = o∧g' = g then some (H.length,0) else none) (fun t=>t) (aN l),H ++ [some (AM.fresh ob)]):=by
 refine Ev1.of hT hF hb hl ?_ ?_ hex hr ?_
 ·rw [hi,dh]
  simp only [atS,decide_eq_true_eq]
  exact ⟨atT.2 fun x _=>jc x.objs,hn⟩
 ·rw [hi,dh,dS as hi (fun _ _=>rfl)]
  exact he
 ·rw [hi,dh]
  exact SS hv ht ho hob hp hp2 hto htg
end
structure Holds (p:AV) (ob:Obj):Prop where
 p:ob.p = p
 g:ob.g = 0
 row:ob.row = true
 ids:ob.ids = false
 tg:ob.tg = 0
theorem Ev1.tried {C:Ctx} {T:Cf} (hT:Below C T) {n f:Nat} {args:List AV} {v:AV} {N:Heap} (h:EX C T n ⟨f,args,v,N⟩ = true) (H:Heap):Ev1 C f args H (dw H.length v,H ++ kT H.length N):=by
 have:=kU.cons hT kU.nil h
 obtain ⟨h1,h2⟩:=this _ (at7.2 rfl)
 exact Ev1.frame h1 h2 H
theorem Ev1.abn {C:Ctx} {T:Cf} (hT:Below C T) {n f:Nat} {args:List AV} {v:AV} (h:EX C T n ⟨f,args,v,[]⟩ = true) (hv:yx v = true) (H:Heap):Ev1 C f args H (v,H):=by
 have:=Ev1.tried hT h H
 rw [show dw H.length v = v from gU v (Lc hv).1 (fun _ _=>rfl)] at this
 simpa [kT] using this
theorem Ev1.each {C:Ctx} {T:Cf} (hT:Below C T) {n f N:Nat} {a v:Nat→AV} (h:(List.range N).all (fun k=>EX C T n ⟨f,[a k],v k,[]⟩) = true) (hv:∀ k,yx (v k) = true) {k:Nat} (hk:k < N) (H:Heap):Ev1 C f [a k] H (v k,H) :=
 Ev1.abn hT (atT.1 h k (aug.2 hk)) (hv k) H
theorem Bq (H:Heap) (x:Option Obj):(H ++ [x])[List.length H]? = some x:=by simp
theorem xB (H:Heap) (x y:Option Obj):(H ++ [x]).set (List.length H) y = H ++ [y]:=by simp
def aj (Q:Out→Prop) (C:Ctx) (T:Cf) (f m:Nat) (c:Code) (fr:Frame) (H:Heap):Prop:=∃ o,Q o∧Run C T f m c fr H o
def Goes (P:Frame→Heap→Prop) (o:Out):Prop:=o.ex = .normal∧P o.fr o.H
def Exits (id:Nat) (P:Frame→Heap→Prop) (o:Out):Prop:=o.ex = .exit id∧P o.fr o.H
def nK (P:Frame→Heap→Prop) (o:Out):Prop:=o.ex = .ret∧P o.fr o.H
section
variable {Q:Out→Prop} {C:Ctx} {T:Cf} {f m:Nat} {fr:Frame} {H:Heap}
theorem aj.of {c:Code} {o:Out} (h:Run C T f m c fr H o) (hq:Q o):aj Q C T f m c fr H:=⟨o,hq,h⟩
theorem aj.seq {a b:Code} {fr':Frame} {H':Heap} (h:Run C T f m a fr H ⟨.normal,fr',H'⟩) (h':aj Q C T f m b fr' H'):aj Q C T f m (.seq a b) fr H:=by
 obtain ⟨o,hq,ho⟩:=h'
 exact ⟨o,hq,Run.seq h ho⟩
theorem aj.andThen {a b:Code} {P:Frame→Heap→Prop} (h:aj (Goes P) C T f m a fr H) (h':∀ fr' H',P fr' H'→aj Q C T f m b fr' H'):aj Q C T f m (.seq a b) fr H:=by
 obtain ⟨⟨ex,fr1,H1⟩,⟨he,hp⟩,ho⟩:=h
 simp only at he hp
 subst he
 exact aj.seq ho (h' _ _ hp)
theorem aj.block {id:Nat} {c:Code} {P:Frame→Heap→Prop} (h:aj (Exits id P) C T f m c fr H):aj (Goes P) C T f m (.block id c) fr H:=by
 obtain ⟨⟨ex,fr1,H1⟩,⟨he,hp⟩,ho⟩:=h
 simp only at he hp
 subst he
 exact ⟨_,⟨rfl,hp⟩,Run.iL ho⟩
theorem aj.assoc {a b c:Code} (h:aj Q C T f m (.seq a (.seq b c)) fr H):aj Q C T f m (.seq (.seq a b) c) fr H:=by
 obtain ⟨o,hq,k,hk⟩:=h
 refine ⟨o,hq,k,?_⟩
 simp only [exec] at hk ⊢
 rw [← hk]
 cases ha:exec C T f m k a fr H with
 | none=>rfl
 | some r =>
  obtain ⟨ex,fr',H'⟩:=r
  cases ex with
  | normal=>rfl
  | exit id=>rfl
  | ret=>rfl
theorem aj.Ho {id:Nat} {c b:Code} {P:Frame→Heap→Prop} (h:aj (fun o=>Exits id P o∨(o.ex = .ret∧Q o)) C T f m c fr H) (h':∀ fr' H',P fr' H'→aj Q C T f m b fr' H'):aj Q C T f m (.seq (.block id c) b) fr H:=by
 obtain ⟨⟨ex,fr1,H1⟩,hq,ho⟩:=h
 rcases hq with ⟨he,hp⟩ | ⟨he,hq⟩
 ·simp only at he hp
  subst he
  exact aj.seq (Run.iL ho) (h' _ _ hp)
 ·simp only at he
  subst he
  exact ⟨_,hq,Run.bI (Run.block ho (by simp)) (by simp)⟩
theorem aj.loop {c:Code} {σ:Type} (I:σ→Prop) (fr:σ→Frame) (H:σ→Heap) (μ:σ→Nat)
  (step:∀ s,I s→(∃ s',I s'∧Run C T f m c (fr s) (H s) ⟨.normal,fr s',H s'⟩∧μ s' < μ s)∨(∃ o,Q o∧o.ex ≠ .normal∧Run C T f m c (fr s) (H s) o)) (s:σ) (hs:I s) :
  aj Q C T f m (.loop c) (fr s) (H s):=by
 generalize hn:μ s = n
 induction n using Nat.strongRecOn generalizing s with
 | _ n ih =>
  rcases step s hs with ⟨s',h0,h1,h3⟩ | ⟨o,hq,h1,h2⟩
  ·obtain ⟨o,hq,ho⟩:=ih (μ s') (by omega) s' h0 rfl
   exact ⟨o,hq,Run.xI h1 ho⟩
  ·exact ⟨o,hq,Run.zT h2 h1⟩
end
def PB (p:AV) (l:List UInt8):Prop:=p = .pb l∨(p = .pn∧l = [])
structure Rw (p:AV) (g:Nat) (ob:Obj):Prop where
 p:ob.p = p
 g:ob.g = g
 row:ob.row = true
 ids:ob.ids = false
 tg:ob.tg = 0
def Byt (H:Heap) (a:AV) (l:List UInt8):Prop :=
 ∃ c p,PB p l∧(c = 0→l = [])∧∀ t,∃ x,dV H t a = some (.ro c p t,x)
theorem PB.ah {p:AV} {l:List UInt8} (h:PB p l):ah p = l.length:=by
 rcases h with rfl | ⟨rfl,rfl⟩ <;> rfl
theorem PB.ids {p:AV} {l:List UInt8} (h:PB p l):ids p = []:=by
 rcases h with rfl | ⟨rfl,rfl⟩ <;> rfl
theorem Byt.ro {H:Heap} {c t:Nat} {p:AV} {l:List UInt8} (h:PB p l) (hc:c = 0→l = []):Byt H (.ro c p t) l :=
 ⟨c,p,h,hc,fun _=>⟨⟨[],[t]⟩,rfl⟩⟩
theorem Byt.nil {H:Heap}:Byt H (.ro 0 .pn 0) []:=Byt.ro (.inr ⟨rfl,rfl⟩) (fun _=>rfl)
theorem Byt.sl {H:Heap} {o off len g:Nat} {ob:Obj} {m l:List UInt8} (ho:H[o]? = some (some ob)) (h:Rw (.pb m) g ob) (hl:(m.drop off).take len = l) (hle:off + len≤m.length):Byt H (.sl o off len g) l:=by
 have hlive:live H o g = some ob:=by simp [live,ho,h.g]
 refine ⟨if ob.z = 0∧AM.ah ob.p = 0 then 0 else 2,.pb l,.inl rfl,fun h0=>?_,fun t=>⟨⟨[o],[ob.tg]⟩,?_⟩⟩
 ·split at h0
  ·rename_i hz
   have hm:m.length = 0:=by have:=hz.2;rw [h.p] at this;exact this
   have:m = []:=aup hm
   subst this
   rw [← hl];simp
  ·cases h0
 ·simp only [dV,dN,hlive,h.ids,h.p,gG]
  rw [if_pos hle,hl]
  rfl
theorem Byt.whole {H:Heap} {o g:Nat} {ob:Obj} {l:List UInt8} (ho:H[o]? = some (some ob)) (h:Rw (.pb l) g ob):Byt H (.sl o 0 l.length g) l :=
 Byt.sl ho h (by simp) (by omega)
section
variable {C:Ctx} {f:Nat} {H:Heap}
theorem wG {i:Nat} {a:AV} {l:List UInt8} {r as:List AV} {xs:List fB} (hrw:C.rw f i = false) (h:Byt H a l) (hr:aG C f H (i + 1) r = some (as,xs)) :
  ∃ c p x,PB p l∧(c = 0→l = [])∧aG C f H i (a :: r) = some (.ro c p (i + 1) :: as,x :: xs):=by
 obtain ⟨c,p,hp,hc,hl⟩:=h
 obtain ⟨x,hx⟩:=hl (i + 1)
 exact ⟨c,p,x,hp,hc,by simp only [aG,hrw,hx,hr]⟩
theorem BL {T e:Nat} (hT:und C T = .slice e) (he:und C e = .int .u8) (hs:sizeT C e = 1) (hb:bD C e = 1) (hz:bF C e = true) {o g:Nat} {ob:Obj} {l m:List UInt8} {src:AV}
  (ho:H[o]? = some (some ob)) (h:Rw (.pb l) g ob) (hsrc:iC H src = some (.pb m,0)∨(iC H src = some (.pn,0)∧m = [])) (hn:l.length + m.length≤100000000) :
  ∃ ob',Rw (.pb (l ++ m)) (g + 1) ob'∧bH C H T (.sl o 0 l.length g) src = some (.sl o 0 (l.length + m.length) (g + 1),upd H o (some ob')):=by
 have hlive:live H o g = some ob:=by simp [live,ho,h.g]
 have hroom:dX C e (l.length + m.length) = true:=by simp [dX,hb];omega
 obtain ⟨p,hp1,hp2⟩:∃ p,iC H src = some (p,0)∧PB p m:=by
  rcases hsrc with h1 | ⟨h1,h2⟩
  ·exact ⟨_,h1,.inl rfl⟩
  ·exact ⟨_,h1,.inr ⟨rfl,h2⟩⟩
 have hpl:=hp2.ah
 have hpa:nM (.pb l) p = some (.pb (l ++ m)):=by
  rcases hp2 with rfl | ⟨rfl,rfl⟩
  ·rfl
  ·simp [nM]
 refine ⟨{ ob with p:=.pb (l ++ m),g:=g + 1,cap:=(match ob.cap with | some c=>if 0 + l.length + AM.ah p≤c then some (c - 0) else none | none=>none),z:=(if AM.ah ob.p = 0 then ob.z else 1),tg:=0 },⟨rfl,rfl,h.row,h.ids,rfl⟩,?_⟩
 unfold bH
 simp only [hT,hs,hz,hp1,hlive,h.row,h.ids,h.p,h.tg]
 simp only [show ¬ ((1:Nat) = 0∨true = false) by simp,if_false]
 have hc:True∧True∧0 + l.length = AM.ah (.pb l)∧aO (.pb l) = 1∧dX C e (l.length + AM.ah p) = true:=⟨trivial,trivial,by simp [AM.ah],rfl,by rw [hpl];exact hroom⟩
 rw [if_pos hc]
 simp only [gG,auo,atG,if_true,auY,auU,hpa,dO,aO]
 simp [hpl]
 rfl
end
section
variable {C:Ctx} {f:Nat} {H:Heap} {T:Cf}
theorem je {l:List AV} (h:dP l = true):ids (aN l) = aC l:=by
 unfold aN
 split
 ·simp [aC]
 ·rw [if_pos h];rfl
theorem iH {l:List AV} (h:dP l = true):tags (aN l) = aX l:=by
 unfold aN
 split
 ·simp [aX]
 ·rw [if_pos h];rfl
theorem qX {ρ:Nat→Nat→Option (Nat × Nat)} {τ:Nat→Nat} {v w:AV} {rest:List AV} (hv:ren ρ τ v = w) (hr:bU ρ τ rest = rest) (h:dP (v :: rest) = true) (h2:dP (w :: rest) = true):ren ρ τ (aN (v :: rest)) = aN (w :: rest):=by
 cases rest with
 | nil=>exact hv
 | cons a r =>
  show ren ρ τ (if dP (v :: a :: r) then .tup (v :: a :: r) else .top) = (if dP (w :: a :: r) then .tup (w :: a :: r) else .top)
  rw [if_pos h,if_pos h2]
  show AV.tup (ren ρ τ v :: bU ρ τ (a :: r)) = _
  rw [hv,hr]
theorem Ev1.KQ (hT:Below C T) {args xs:List AV} {aK:List fB} {fn:Func} {c:Code} {n:Nat} {l:List UInt8} {rest:List AV}
  (hF:C.P.funcs[f]? = some fn) (hb:fn.body = some c) (hl:aG C f H 0 args = some (xs,aK)) (hi:aC xs = []) (hn:xs.length + 1 < dn) (hri:aC rest = []) (hrt:aX rest = []) (hnt:dP rest = true)
  (h:aj (nK fun fr H1=>∃ o g ob,aP C fr H1 fn.results.toList = some (.sl o 0 n g :: rest)∧H1[o]? = some (some ob)∧Rw (.pb l) g ob) C T f 0 c (numbered 0 (coerce C xs (aI C f))) []) :
  ∃ ob',Rw (.pb l) 0 ob'∧Ev1 C f args H (aN (.sl H.length 0 n 0 :: rest),H ++ [some ob']):=by
 obtain ⟨⟨ex,fr,H1⟩,⟨he,o,g,ob,hr,ho,hw⟩,hrun⟩:=h
 simp only at he hr ho
 subst he
 refine ⟨AM.fresh ob,⟨hw.p,rfl,hw.row,hw.ids,rfl⟩,?_⟩
 have:=Ev1.fresh (H:=H) hT hF hb hl hi hn hrun (.inr rfl) hr (o:=o) (g:=g) (ob:=ob) (by rw [je (l:=.sl o 0 n g :: rest) hnt];simp [aC,ids,hri]) (by rw [iH (l:=.sl o 0 n g :: rest) hnt];simp [aX,tags,hrt]) (by simp [live,ho,hw.g]) hw.ids (by rw [hw.p];rfl) hw.tg
 rw [qX (w:=.sl H.length 0 n 0) (by simp [ren]) (dS rest hri (fun t ht=>rfl)) (by exact hnt) (by exact hnt)] at this
 exact this
theorem Ev1.tY (hT:Below C T) {args xs:List AV} {aK:List fB} {fn:Func} {c:Code} {l:List AV}
  (hF:C.P.funcs[f]? = some fn) (hb:fn.body = some c) (hl:aG C f H 0 args = some (xs,aK)) (hi:aC xs = []) (hn:xs.length + 1 < dn) (hri:aC l = []) (hrt:aX l = []) (hnt:dP l = true)
  (h:aj (nK fun fr H1=>aP C fr H1 fn.results.toList = some l) C T f 0 c (numbered 0 (coerce C xs (aI C f))) []):Ev1 C f args H (aN l,H):=by
 obtain ⟨⟨ex,fr,H1⟩,⟨he,hr⟩,hrun⟩:=h
 simp only at he hr
 subst he
 exact Ev1.plain hT hF hb hl hi hn hrun (.inr rfl) hr (by rw [je hnt];exact hri) (by rw [iH hnt];exact hrt)
end
section
variable {C:Ctx} {T:Cf} {f m:Nat} {fr fr' fr2:Frame} {H H':Heap} {ms:List Mark}
theorem Run.dy {id:Nat} {ops:Array Oper} {l:List Nat} (hdy:C.dy f id = true) (hk:C.keep f id = some l) (hn:C.norm f id = false)
  (h:jU C T (fE C f) ops ops.toList fr H = some (fr',H',ms)) (hm:xM (Region.before ops) ms = true) (hf:cO l fr' = fr2):Run C T f m (.region id ops true) fr H ⟨.normal,fr2,H'⟩:=by
 refine ⟨0,?_⟩
 simp only [exec,hdy,avf,Bool.true_or,if_true,h,hm,iY,hk,hn,hf]
 rfl
end
section
variable {C:Ctx} {f:Nat} {H:Heap} {T:Cf}
end
end Go.AM
namespace Go.AM
open Go.ChangeShapes Go.WideShapes Go.ChangeAt Go.RowKit
section
variable {H:Type} {enc:TypeId × Value→H} {P:Program} {W:World}
theorem OT {base:Nat} {t e:TypeId} {v:Value} {d:DataW H} {ps:List MemPlace} (ht:P.underlying t = some (.slice e)) (he:P.underlying e = some (.int .u8)) (hc:P.cellsOf e = 1)
  (hval:Value.okWide P W .any base t v) (hd:DataW.Trod enc P W 0 (fun _=>true) true t v d ps) :
  ∃ (c:Nat) (l:List UInt8),(c = 0→l = [])∧l.length≤maxLen∧aA (start W) (T0 W.heap.size) (.ro c (.pb l) 1) v:=by
 obtain ⟨a0,len0,cap0,rfl⟩:=okWide_slice ht hval
 obtain ⟨fuel,hf⟩:=hd
 rcases Go.ChangeShapes.open_ints ht he hc hf with ⟨hcs,_⟩ | ⟨a,len,cap,zs,hcs,_,hlc,hcm,hzl,_,hcell,hwf⟩
 ·simp [Value.cells] at hcs
  obtain ⟨rfl,rfl,rfl⟩:=hcs
  exact ⟨0,[],fun _=>rfl,by simp,WR (l:=[]) ⟨atG _,fun _=>⟨rfl,rfl⟩,fun h=>absurd rfl h,fun h=>by simp at h⟩ (fun a ha=>by cases ha)⟩
 ·simp [Value.cells] at hcs
  obtain ⟨rfl,rfl,rfl⟩:=hcs
  simp only [if_true] at hzl
  have hlen:((zs.take len0).map fun n=>UInt8.ofNat n.toNat).length = len0:=by simp;omega
  refine ⟨2,((zs.take len0).map fun n=>UInt8.ofNat n.toNat),(fun h=>by cases h),by rw [hlen];omega,?_⟩
  have:=WR (W:=W) (c:=2) (l:=(zs.take len0).map fun n=>UInt8.ofNat n.toNat) (ad:=some a) (cap:=cap0) ⟨by rw [hlen];exact hlc,fun h=>by simp at h,fun _=>rfl,fun h=>by simp at h⟩ (by
   intro a' ha' hn
   simp only [atA] at ha'
   subst ha'
   rw [hlen] at hn
   have h0:=hcell 0 (by omega)
   have hsp:a.spot = none:=by
    have:=World.cell?_spot h0
    simpa [Addr.add] using this
   obtain ⟨b,off,spot⟩:=a
   simp only at hsp
   subst hsp
   refine ⟨rfl,?_,fun j x hx=>?_⟩
   ·rw [add_plain] at h0
    exact block_lt_of_cell h0
   ·rw [atI] at hx
    cases hz:(zs.take len0)[j]? with
    | none=>rw [hz] at hx;cases hx
    | some z =>
     rw [hz] at hx
     simp only [atF,atA] at hx
     have hjl:j < len0:=by
      have:=(atD.1 hz).1
      simp at this
      omega
     rw [avH hjl] at hz
     have afd:=atL hz
     obtain ⟨q1,q2⟩:=afa (hwf z afd)
     have:=hcell j (by omega)
     rw [add_plain] at this
     rw [this,atH,hz,aus,← hx]
     have:((UInt8.ofNat z.toNat).toNat:Int) = z:=by
      rw [au1,auT (by simp;omega)]
      omega
     rw [this])
  rw [hlen] at this
  exact this
theorem nat_wf {k:IntKind} (hk:k.signed = false) {n:Int} (h:(Lit.int k n).wf = true):∃ m:Nat,n = (m:Int)∧m < 2 ^ k.bits:=by
 have h1:k.min≤n∧n≤k.max:=by simpa [Lit.wf] using h
 cases k <;> simp [IntKind.signed] at hk <;> simp only [IntKind.min,IntKind.max,IntKind.signed,IntKind.bits] at h1 ⊢ <;> exact ⟨n.toNat,by simp at h1;omega,by simp at h1;omega⟩
end
section
variable {C:Ctx} {f:Nat} {H:Heap} {T:Cf}
theorem Byt.part {o off len g:Nat} {ob:Obj} {m l:List UInt8} (ho:H[o]? = some (some ob)) (hg:ob.g = g) (hp:ob.p = .pb m) (hi:ob.ids = false) (hl:(m.drop off).take len = l) (hle:off + len≤m.length):Byt H (.sl o off len g) l:=by
 have hlive:live H o g = some ob:=by simp [live,ho,hg]
 refine ⟨if ob.z = 0∧AM.ah ob.p = 0 then 0 else 2,.pb l,.inl rfl,fun h0=>?_,fun t=>⟨⟨[o],[ob.tg]⟩,?_⟩⟩
 ·split at h0
  ·rename_i hz
   have hm:m.length = 0:=by have:=hz.2;rw [hp] at this;exact this
   have:m = []:=aup hm
   subst this
   rw [← hl];simp
  ·cases h0
 ·simp only [dV,dN,hlive,hi,hp,gG]
  rw [if_pos hle,hl]
  rfl
end
section
variable {C:Ctx} {f:Nat} {H:Heap} {T:Cf}
structure RwT (p:AV) (g t:Nat) (ob:Obj):Prop where
 p:ob.p = p
 g:ob.g = g
 row:ob.row = true
 ids:ob.ids = false
 tg:ob.tg = t
theorem zG {T e:Nat} (hT:und C T = .slice e) (he:und C e = .int .u8) (hs:sizeT C e = 1) (hb:bD C e = 1) (hz:bF C e = true) {o g t:Nat} {ob:Obj} {l m:List UInt8} {src:AV}
  (ho:H[o]? = some (some ob)) (h:RwT (.pb l) g t ob) (hsrc:iC H src = some (.pb m,0)∨(iC H src = some (.pn,0)∧m = [])) (hn:l.length + m.length≤100000000) :
  ∃ ob',RwT (.pb (l ++ m)) (g + 1) t ob'∧bH C H T (.sl o 0 l.length g) src = some (.sl o 0 (l.length + m.length) (g + 1),upd H o (some ob')):=by
 have hlive:live H o g = some ob:=by simp [live,ho,h.g]
 have hroom:dX C e (l.length + m.length) = true:=by simp [dX,hb];omega
 obtain ⟨p,hp1,hp2⟩:∃ p,iC H src = some (p,0)∧PB p m:=by
  rcases hsrc with h1 | ⟨h1,h2⟩
  ·exact ⟨_,h1,.inl rfl⟩
  ·exact ⟨_,h1,.inr ⟨rfl,h2⟩⟩
 have hpl:=hp2.ah
 have hpa:nM (.pb l) p = some (.pb (l ++ m)):=by
  rcases hp2 with rfl | ⟨rfl,rfl⟩
  ·rfl
  ·simp [nM]
 have hj:dO t 0 = some t:=by
  unfold dO
  by_cases h0:t = 0
  ·rw [if_pos h0,h0]
  ·rw [if_neg h0,if_pos (.inl rfl)]
 refine ⟨{ ob with p:=.pb (l ++ m),g:=g + 1,cap:=(match ob.cap with | some c=>if 0 + l.length + AM.ah p≤c then some (c - 0) else none | none=>none),z:=(if AM.ah ob.p = 0 then ob.z else 1),tg:=t },⟨rfl,rfl,h.row,h.ids,rfl⟩,?_⟩
 unfold bH
 simp only [hT,hs,hz,hp1,hlive,h.row,h.ids,h.p,h.tg]
 simp only [show ¬ ((1:Nat) = 0∨true = false) by simp,if_false]
 have hc:True∧True∧0 + l.length = AM.ah (.pb l)∧aO (.pb l) = 1∧dX C e (l.length + AM.ah p) = true:=⟨trivial,trivial,by simp [AM.ah],rfl,by rw [hpl];exact hroom⟩
 rw [if_pos hc]
 simp only [gG,auo,atG,if_true,auY,auU,hpa,hj,aO]
 simp [hpl]
 rfl
theorem RwT.rw {p:AV} {g:Nat} {ob:Obj} (h:RwT p g 0 ob):Rw p g ob:=⟨h.p,h.g,h.row,h.ids,h.tg⟩
end
section
variable {Q Q':Out→Prop} {C:Ctx} {T:Cf} {f m:Nat} {fr:Frame} {H:Heap}
theorem aj.mono {c:Code} (h:aj Q C T f m c fr H) (hq:∀ o,Q o→Q' o):aj Q' C T f m c fr H:=by
 obtain ⟨o,h1,h2⟩:=h
 exact ⟨o,hq o h1,h2⟩
theorem aj.kQ {c:Code} (I:Nat→Frame→Heap→Prop)
  (step:∀ k fr H,I k fr H→aj (fun o=>(o.ex = .normal∧∃ k',k' < k∧I k' o.fr o.H)∨(o.ex ≠ .normal∧Q o)) C T f m c fr H) {k:Nat} (h:I k fr H) :
  aj Q C T f m (.loop c) fr H:=by
 induction k using Nat.strongRecOn generalizing fr H with
 | _ k ih =>
  obtain ⟨⟨ex,fr1,H1⟩,hq,hr⟩:=step k fr H h
  rcases hq with ⟨he,k',hk,hi⟩ | ⟨he,hq⟩
  ·simp only at he hi
   subst he
   obtain ⟨o,hq,ho⟩:=ih k' hk hi
   exact ⟨o,hq,Run.xI hr ho⟩
  ·exact ⟨_,hq,Run.zT hr he⟩
theorem aj.yI {a b:Code} (h:aj Q C T f m a fr H) (hq:∀ o,Q o→o.ex ≠ .normal):aj Q C T f m (.seq a b) fr H:=by
 obtain ⟨o,h1,h2⟩:=h
 exact ⟨o,h1,Run.bI h2 (hq o h1)⟩
theorem aj.blk {id:Nat} {c:Code} (h:aj Q C T f m c fr H) (hq:∀ o,Q o→o.ex ≠ .exit id):aj Q C T f m (.block id c) fr H:=by
 obtain ⟨o,h1,h2⟩:=h
 exact ⟨o,h1,Run.block h2 (hq o h1)⟩
def Or2 (P:Frame→Heap→Prop) (Q:Out→Prop) (o:Out):Prop:=(o.ex = .normal∧P o.fr o.H)∨(o.ex ≠ .normal∧Q o)
theorem aj.or {a b:Code} {P:Frame→Heap→Prop} (h:aj (Or2 P Q) C T f m a fr H) (h':∀ fr' H',P fr' H'→aj Q C T f m b fr' H'):aj Q C T f m (.seq a b) fr H:=by
 obtain ⟨⟨ex,fr1,H1⟩,hq,hr⟩:=h
 rcases hq with ⟨he,hp⟩ | ⟨he,hq⟩
 ·simp only at he hp
  subst he
  exact aj.seq hr (h' _ _ hp)
 ·exact ⟨_,hq,Run.bI hr he⟩
theorem aj.goes {c:Code} {P:Frame→Heap→Prop} (h:aj (Goes P) C T f m c fr H):aj (Or2 P Q) C T f m c fr H:=h.mono fun _ h=>.inl h
theorem aj.yu {c:Operand} {a b:Code} (hc:aJ C fr c = .bool true) (h:aj Q C T f m a fr H):aj Q C T f m (.cond c a b) fr H:=by
 obtain ⟨o,hq,ho⟩:=h
 exact ⟨o,hq,Run.cond (d:=true) hc ho⟩
theorem aj.afe {c:Operand} {a b:Code} (hc:aJ C fr c = .bool false) (h:aj Q C T f m b fr H):aj Q C T f m (.cond c a b) fr H:=by
 obtain ⟨o,hq,ho⟩:=h
 exact ⟨o,hq,Run.cond (d:=false) hc ho⟩
theorem aj.JG {id:Nat} {c:Code} {P:Frame→Heap→Prop} (h:aj (fun o=>Exits id P o∨(o.ex = .ret∧Q o)) C T f m c fr H):aj (Or2 P Q) C T f m (.block id c) fr H:=by
 obtain ⟨⟨ex,fr1,H1⟩,hq,hr⟩:=h
 rcases hq with ⟨he,hp⟩ | ⟨he,hq⟩
 ·simp only at he hp
  subst he
  exact ⟨_,.inl ⟨rfl,hp⟩,Run.iL hr⟩
 ·simp only at he
  subst he
  exact ⟨_,.inr ⟨by simp,hq⟩,Run.block hr (by simp)⟩
end
def aB:List Nat→Code→Option Code
 | [],c=>some c
 | 0 :: r,.seq a _=>aB r a
 | _ :: r,.seq _ b=>aB r b
 | 0 :: r,.cond _ a _=>aB r a
 | _ :: r,.cond _ _ b=>aB r b
 | _ :: r,.block _ c=>aB r c
 | _ :: r,.loop c=>aB r c
 | _,_=>none
theorem piece {O:Option Code} {P:Code→Prop} (h:∃ code,O = some code∧P code) (code':Code) (h':O = some code'):P code':=by
 obtain ⟨c,h1,h2⟩:=h
 rw [h'] at h1
 exact (atK h1) ▸ h2
def orB (y:UInt8) (j:Nat):UInt8:=UInt8.ofNat (y.toNat ||| 2 ^ j)
theorem SV {y:UInt8} {j:Nat} (hj:j < 8):(orB y j).toNat = y.toNat ||| 2 ^ j:=by
 unfold orB
 have h1:=y.toNat_lt
 have h2:2 ^ j < 2 ^ 8:=Nat.pow_lt_pow_right (by omega) hj
 have h3:y.toNat ||| 2 ^ j < 2 ^ 8:=awd h1 h2
 rw [au1,auT h3]
theorem or_bit {y:UInt8} {j:Nat} (hj:j < 8):IntKind.u8.wrap ((bits .u8 (y.toNat:Int) ||| bits .u8 ((2 ^ j:Nat):Int)).toNat:Nat) = ((orB y j).toNat:Nat):=by
 have h1:=y.toNat_lt
 have h2:2 ^ j < 2 ^ 8:=Nat.pow_lt_pow_right (by omega) hj
 have h3:y.toNat ||| 2 ^ j < 2 ^ 8:=awd h1 h2
 have hb:∀ v:Nat,v < 256→(bits .u8 (v:Int)).toNat = v:=by
  intro v hv
  unfold bits
  simp [IntKind.bits]
  omega
 rw [SV hj,show (bits .u8 (y.toNat:Int) ||| bits .u8 ((2 ^ j:Nat):Int)).toNat = (bits .u8 (y.toNat:Int)).toNat ||| (bits .u8 ((2 ^ j:Nat):Int)).toNat by simp]
 rw [hb _ h1,hb _ h2]
 unfold IntKind.wrap
 simp [IntKind.signed,IntKind.bits]
 omega
section
variable {C:Ctx} {T:Cf} {f:Nat} {H:Heap}
end
section
variable {C:Ctx} {T:Cf} {f:Nat} {H:Heap}
end
section
variable {C:Ctx} {f:Nat} {H:Heap} {T:Cf}
theorem Lh {T e es:Nat} (hT:und C T = .slice e) (hs:sizeT C e = es) (hes:es ≠ 0) (hb:bD C e≤4096) (hz:bF C e = true) {o g:Nat} {ob:Obj} {l m:List AV} {src:AV}
  (ho:H[o]? = some (some ob)) (h:Rw (.pr es l) g ob) (hsrc:iC H src = some (.pr es m,0)) (hn:l.length + m.length≤100000000) :
  ∃ ob',Rw (.pr es (l ++ m)) (g + 1) ob'∧bH C H T (.sl o 0 l.length g) src = some (.sl o 0 (l.length + m.length) (g + 1),upd H o (some ob')):=by
 have hlive:live H o g = some ob:=by simp [live,ho,h.g]
 have hroom:dX C e (l.length + m.length) = true:=by
  unfold dX
  have:(l.length + m.length) * bD C e≤100000000 * 4096:=Nat.mul_le_mul hn hb
  exact decide_eq_true ⟨by omega,by omega⟩
 refine ⟨{ ob with p:=.pr es (l ++ m),g:=g + 1,cap:=(match ob.cap with | some c=>if 0 + l.length + AM.ah (.pr es m)≤c then some (c - 0) else none | none=>none),z:=(if AM.ah ob.p = 0 then ob.z else 1),tg:=0 },⟨rfl,rfl,h.row,h.ids,rfl⟩,?_⟩
 unfold bH
 simp only [hT,hs,hz,hsrc,hlive,h.row,h.ids,h.p,h.tg]
 rw [if_neg (by simp [hes])]
 have hc:True∧True∧0 + l.length = AM.ah (.pr es l)∧aO (.pr es l) = es∧dX C e (l.length + AM.ah (.pr es m)) = true:=⟨trivial,trivial,by simp [AM.ah],rfl,by simpa [AM.ah] using hroom⟩
 rw [if_pos hc]
 simp only [gG,auo,atG,if_true,auY,auU,nM,dO,aO]
 simp [AM.ah]
 rfl
theorem Ev1.newR (hT:Below C T) {args xs:List AV} {aK:List fB} {fn:Func} {c:Code} {n es:Nat} {l rest:List AV}
  (hF:C.P.funcs[f]? = some fn) (hb:fn.body = some c) (hl:aG C f H 0 args = some (xs,aK)) (hi:aC xs = []) (hn:xs.length + 1 < dn) (hri:aC rest = []) (hrt:aX rest = []) (hnt:dP rest = true) (hpi:aC l = []) (hpt:aX l = [])
  (h:aj (nK fun fr H1=>∃ o g ob,aP C fr H1 fn.results.toList = some (.sl o 0 n g :: rest)∧H1[o]? = some (some ob)∧Rw (.pr es l) g ob) C T f 0 c (numbered 0 (coerce C xs (aI C f))) []) :
  ∃ ob',Rw (.pr es l) 0 ob'∧Ev1 C f args H (aN (.sl H.length 0 n 0 :: rest),H ++ [some ob']):=by
 obtain ⟨⟨ex,fr,H1⟩,⟨he,o,g,ob,hr,ho,hw⟩,hrun⟩:=h
 simp only at he hr ho
 subst he
 refine ⟨AM.fresh ob,⟨hw.p,rfl,hw.row,hw.ids,rfl⟩,?_⟩
 have:=Ev1.abm (H:=H) hT hF hb hl hi hn hrun (.inr rfl) hr (o:=o) (g:=g) (ob:=ob) (by rw [je (l:=.sl o 0 n g :: rest) hnt];simp [aC,ids,hri]) (by rw [iH (l:=.sl o 0 n g :: rest) hnt];simp [aX,tags,hrt]) (by simp [live,ho,hw.g]) hw.ids (by rw [hw.p];exact hpi) (by rw [hw.p];exact hpt) (by simp [dA,hw.ids,hw.p,hw.tg]) hw.tg
 rw [qX (w:=.sl H.length 0 n 0) (by simp [ren]) (dS rest hri (fun t ht=>rfl)) (by exact hnt) (by exact hnt)] at this
 exact this
def QJ (H:Heap) (a:AV) (es:Nat) (l:List AV):Prop :=
 ∃ c p,(p = .pr es l∨(p = .pn∧l = []))∧(c = 0→l = [])∧∀ t,∃ x,dV H t a = some (.ro c p t,x)
theorem QJ.ro {c t es:Nat} {l:List AV} (hc:c = 0→l = []):QJ H (.ro c (.pr es l) t) es l :=
 ⟨c,_,.inl rfl,hc,fun _=>⟨⟨[],[t]⟩,rfl⟩⟩
theorem QJ.whole {o g es:Nat} {ob:Obj} {l:List AV} (ho:H[o]? = some (some ob)) (h:Rw (.pr es l) g ob):QJ H (.sl o 0 l.length g) es l:=by
 have hlive:live H o g = some ob:=by simp [live,ho,h.g]
 refine ⟨if ob.z = 0∧AM.ah ob.p = 0 then 0 else 2,.pr es l,.inl rfl,fun h0=>?_,fun t=>⟨⟨[o],[ob.tg]⟩,?_⟩⟩
 ·split at h0
  ·rename_i hz
   have hm:l.length = 0:=by have:=hz.2;rw [h.p] at this;exact this
   exact aup hm
  ·cases h0
 ·simp only [dV,dN,hlive,h.ids,h.p,gG]
  simp
end
def Ia (b:Array Nat) (n:Nat):List (Nat × Nat) :=
 (List.range n).flatMap fun j=>(List.range j).filterMap fun i=>if (b.getD j 0).testBit i then none else some (i,j)
def zM (ms:List Mark) (p:Nat × Nat):Bool:=match ms[p.1]?,ms[p.2]? with | some x,some y=>bear x y | _,_=>false
theorem lF {b:Array Nat} {ms:List Mark} {ps:List (Nat × Nat)} (h:Ia b ms.length = ps) (h2:ps.all (zM ms) = true):xM b ms = true:=by
 unfold xM
 rw [atT]
 intro j hj
 rw [atT]
 intro i hi
 cases hb:(b.getD j 0).testBit i with
 | true=>rfl
 | false =>
  rw [Bool.false_or]
  subst h
  have:=atT.1 h2 (i,j) (by
   unfold Ia
   rw [auV]
   exact ⟨j,hj,List.mem_filterMap.2 ⟨i,hi,by rw [hb];rfl⟩⟩)
  exact this
section
variable {C:Ctx} {f:Nat} {H:Heap} {T:Cf}
def QK (H:Heap) (a:AV) (l:List AV):Prop :=
 ∃ c p,(p = .pc l∨(p = .pn∧l = []))∧(c = 0→l = [])∧∀ t,∃ x,dV H t a = some (.ro c p t,x)
theorem QK.ro {c t:Nat} {l:List AV} (hc:c = 0→l = []):QK H (.ro c (.pc l) t) l :=
 ⟨c,_,.inl rfl,hc,fun _=>⟨⟨[],[t]⟩,rfl⟩⟩
theorem QK.whole {o g:Nat} {ob:Obj} {l:List AV} (ho:H[o]? = some (some ob)) (h:Rw (.pc l) g ob):QK H (.sl o 0 l.length g) l:=by
 have hlive:live H o g = some ob:=by simp [live,ho,h.g]
 refine ⟨if ob.z = 0∧AM.ah ob.p = 0 then 0 else 2,.pc l,.inl rfl,fun h0=>?_,fun t=>⟨⟨[o],[ob.tg]⟩,?_⟩⟩
 ·split at h0
  ·rename_i hz
   have hm:l.length = 0:=by have:=hz.2;rw [h.p] at this;exact this
   exact aup hm
  ·cases h0
 ·simp only [dV,dN,hlive,h.ids,h.p,gG]
  simp
end
section
variable {C:Ctx} {f:Nat} {H:Heap} {T:Cf}
end
section
variable {C:Ctx} {f:Nat} {H:Heap} {T:Cf}
end
theorem jo {ρ:Nat→Nat→Option (Nat × Nat)} {τ:Nat→Nat} {H:Heap} {π:List Nat} {H1:Heap}:∀ (l:List Nat) (k:Nat) (B:Heap),(bW ρ τ H π H1 k l B).length = B.length
 | [],_,_=>rfl
 | o :: r,k,B=>by rw [bW,jo r];simp [upd]
theorem yX {ρ:Nat→Nat→Option (Nat × Nat)} {τ:Nat→Nat} {H:Heap} {π:List Nat} {H1:Heap} {j:Nat}:∀ (l:List Nat) (k:Nat) (B:Heap),j ∉ l→(bW ρ τ H π H1 k l B)[j]? = B[j]?
 | [],_,_,_=>rfl
 | o :: r,k,B,h=>by
  rw [bW,yX r _ _ (fun h2=>h (auc _ h2))]
  unfold upd
  rw [atW (fun h2=>h (by rw [h2];exact auz ..))]
theorem Fe {ρ:Nat→Nat→Option (Nat × Nat)} {τ:Nat→Nat} {H:Heap} {π:List Nat} {H1:Heap}:∀ (l:List Nat) (k i o:Nat) (B:Heap),l.Nodup→l[i]? = some o→o < B.length →
  (bW ρ τ H π H1 k l B)[o]? = some ((aU H1 (k + i)).map fun ob=>aT ρ τ (fO H π (k + i) ob.g) ob)
 | [],_,i,_,_,_,h,_=>by simp at h
 | a :: r,k,0,o,B,hn,h,hl=>by
  simp at h
  subst h
  rw [avk] at hn
  rw [bW,yX r _ _ hn.1]
  unfold upd
  rw [auF hl,ave]
 | a :: r,k,i + 1,o,B,hn,h,hl=>by
  rw [avk] at hn
  rw [bW,Fe r (k + 1) i o _ hn.2 (by simpa using h) (by simpa [upd] using hl),show k + 1 + i = k + (i + 1) by omega]
section
variable {C:Ctx} {f:Nat} {H:Heap} {T:Cf}
def okTags (n:Nat) (ob:Obj):Prop:=(∀ t ∈ tags ob.p,t = 0∨t = n)∧(ob.tg = 0∨ob.tg = n)
theorem okTags.ob {n:Nat} {ob:Obj} (h:okTags n ob) (hp:∀ l,ob.p ≠ .pm l):∀ t ∈ dA ob,t = 0∨t = n:=by
 intro t ht
 unfold dA at ht
 split at ht
 ·exact h.1 t ht
 ·rcases atX.1 ht with rfl | ht
  ·exact h.2
  ·split at ht
   ·rename_i l hl;exact absurd hl (hp l)
   ·simp at ht
end
section
variable {C:Ctx} {f:Nat} {H:Heap} {T:Cf}
theorem Yy {T e:Nat} (hT:und C T = .slice e) (he:und C e = .int .u8) (hs:sizeT C e = 1) (hb:bD C e = 1) (hz:bF C e = true) {o g t off:Nat} {ob:Obj} {l m:List UInt8} {src:AV}
  (ho:H[o]? = some (some ob)) (h:RwT (.pb l) g t ob) (hoff:off≤l.length) (hsrc:iC H src = some (.pb m,0)∨(iC H src = some (.pn,0)∧m = [])) (hn:l.length + m.length≤100000000) :
  ∃ ob',RwT (.pb (l.drop off ++ m)) (g + 1) t ob'∧bH C H T (.sl o off (l.drop off).length g) src = some (.sl o 0 ((l.drop off).length + m.length) (g + 1),upd H o (some ob')):=by
 have hlive:live H o g = some ob:=by simp [live,ho,h.g]
 have hroom:dX C e ((l.drop off).length + m.length) = true:=by simp [dX,hb];omega
 obtain ⟨p,hp1,hp2⟩:∃ p,iC H src = some (p,0)∧PB p m:=by
  rcases hsrc with h1 | ⟨h1,h2⟩
  ·exact ⟨_,h1,.inl rfl⟩
  ·exact ⟨_,h1,.inr ⟨rfl,h2⟩⟩
 have hpl:=hp2.ah
 have hpa:nM (.pb (l.drop off)) p = some (.pb (l.drop off ++ m)):=by
  rcases hp2 with rfl | ⟨rfl,rfl⟩
  ·rfl
  ·simp [nM]
 have hj:dO t 0 = some t:=by
  unfold dO
  by_cases h0:t = 0
  ·rw [if_pos h0,h0]
  ·rw [if_neg h0,if_pos (.inl rfl)]
 have hps:gG (.pb l) off (l.drop off).length = some (.pb (l.drop off)):=by
  simp only [gG,atZ]
  rw [if_pos (by omega)]
  congr 2
  rw [auB (by simp)]
 refine ⟨{ ob with p:=.pb (l.drop off ++ m),g:=g + 1,cap:=(match ob.cap with | some c=>if off + (l.drop off).length + AM.ah p≤c then some (c - off) else none | none=>none),z:=(if AM.ah ob.p = 0 then ob.z else 1),tg:=t },⟨rfl,rfl,h.row,h.ids,rfl⟩,?_⟩
 unfold bH
 simp only [hT,hs,hz,hp1,hlive,h.row,h.ids,h.p,h.tg]
 simp only [show ¬ ((1:Nat) = 0∨true = false) by simp,if_false]
 have hc:True∧True∧off + (l.drop off).length = AM.ah (.pb l)∧aO (.pb l) = 1∧dX C e ((l.drop off).length + AM.ah p) = true:=⟨trivial,trivial,by simp [AM.ah];omega,rfl,by rw [hpl];exact hroom⟩
 rw [if_pos hc]
 simp only [hps,hpa,hj,aO]
 simp [hpl]
 rfl
theorem Ev1.newP (hT:Below C T) {args xs:List AV} {aK:List fB} {fn:Func} {c:Code} {rest:List AV} {ob:Obj} {n:Nat}
  (hF:C.P.funcs[f]? = some fn) (hb:fn.body = some c) (hl:aG C f H 0 args = some (xs,aK)) (hi:aC xs = []) (hn:xs.length + 1 = n) (hng:n < dn) (hri:aC rest = []) (hrt:aX rest = []) (hnt:dP rest = true)
  (hip:ids ob.p = []) (htp:∀ k ∈ tags ob.p,k = 0) (htg:ob.tg = 0) (hg:ob.g = 0) (hpm:∀ l,ob.p ≠ .pm l)
  (h:aj (nK fun fr H1=>∃ o,aP C fr H1 fn.results.toList = some (.ptr o 0 0 0 :: rest)∧H1[o]? = some (some ob)) C T f 0 c (numbered 0 (coerce C xs (aI C f))) []) :
  Ev1 C f args H (aN (.ptr H.length 0 0 0 :: rest),H ++ [some ob]):=by
 obtain ⟨⟨ex,fr,H1⟩,⟨he,o,hr,ho⟩,hrun⟩:=h
 simp only at he hr ho
 subst he
 have hre:reach H aF (aC xs) [] = []:=by
  rw [hi,dh]
 refine Ev1.of (out:=⟨.ret,fr,H1⟩) (l:=.ptr o 0 0 0 :: rest) hT hF hb hl ?_ ?_ (.inr rfl) hr ?_
 ·rw [hre]
  simp only [atS,decide_eq_true_eq]
  refine ⟨atT.2 fun x _=>?_,by omega⟩
  exact jc x.objs
 ·rw [hre]
  rw [dS xs hi (fun _ _=>rfl)]
  exact hrun
 ·rw [hre]
  unfold wrap
  have hv:ids (aN (.ptr o 0 0 0 :: rest)) = [o]:=by rw [je (l:=.ptr o 0 0 0 :: rest) hnt];simp [aC,ids,hri]
  have hvt:tags (aN (.ptr o 0 0 0 :: rest)) = []:=by rw [iH (l:=.ptr o 0 0 0 :: rest) hnt];simp [aX,tags,hrt]
  have hK:reach H1 aF (List.range ([]:List Nat).length ++ ids (aN (.ptr o 0 0 0 :: rest))) [] = [o]:=by
   rw [hv]
   exact lS ho hip
  simp only [hK]
  rw [show ([o].filter fun o'=>decide (([]:List Nat).length≤o')) = [o] by simp]
  have hat:aU H1 o = some ob:=by simp [aU,ho]
  have hlv:live H1 o 0 = some ob:=by simp [live,ho,hg]
  have hus:∀ x ∈ tags (aN (.ptr o 0 0 0 :: rest)) ++ au ((List.range ([]:List Nat).length).map (aU H1)) ++ au ([o].map (aU H1)),x = 0:=by
   intro x hx
   rw [hvt] at hx
   simp only [atY,auZ,auj,au,at6,aua,hat,at1] at hx
   unfold dA at hx
   split at hx
   ·exact htp x hx
   ·rcases atX.1 hx with rfl | hx
    ·exact htg
    ·split at hx
     ·rename_i l hl;exact absurd hl (hpm l)
     ·simp at hx
  have hb0:∀ L:List fB,dL L 0 = some 0:=fun L=>by unfold dL;rw [if_pos rfl]
  have hT0:∀ L:List fB,bM L 0 = 0:=fun L=>by unfold bM;rw [hb0];rfl
  rw [if_pos (atT.2 fun k hk=>by rw [hus k hk,hb0];rfl)]
  have hfl:(tags (aN (.ptr o 0 0 0 :: rest)) ++ au ((List.range ([]:List Nat).length).map (aU H1)) ++ au ([o].map (aU H1))).flatMap (dG (aK ++ [⟨[],au (([]:List Nat).map (aU H))⟩])) = []:=avh.2 fun k hk=>by rw [hus k hk];rfl
  rw [hfl]
  simp only [aut,strike,bW,aua,auj,hat,atF,atA,atC]
  have DV:bV H [] [o] H1 o 0 = some (H.length,0):=by
   unfold bV
   rw [hlv]
   simp [idxOf]
  refine ⟨?_,?_⟩
  ·rw [qX (w:=.ptr H.length 0 0 0) (by simp [ren,DV]) (dS rest hri (fun t ht=>by rw [hrt] at ht;cases ht)) (by exact hnt) (by exact hnt)]
  ·congr 2
   unfold aT
   rw [htg,hT0,gU ob.p hip (fun t ht=>by rw [htp t ht];exact hT0 _)]
   cases ob
   simp only at htg hg
   subst htg hg
   rfl
end
theorem Lj {k:Nat}:∀ {new:List Nat},k ∈ new→∃ i,new[i]? = some k∧∀ j,idxOf new k j = some (j + i)
 | a :: r,h=>by
  by_cases e:a = k
  ·subst e
   exact ⟨0,rfl,fun j=>by simp [idxOf]⟩
  ·have hk:k ∈ r:=by
    rcases atX.1 h with h | h
    ·exact absurd h.symm e
    ·exact h
   obtain ⟨i,h1,h2⟩:=Lj hk
   refine ⟨i + 1,by simpa using h1,fun j=>?_⟩
   unfold idxOf
   rw [if_neg e,h2]
   congr 1
   omega
def At (H:Heap) (π new:List Nat) (k o':Nat):Prop:=(k < π.length∧π[k]? = some o')∨(π.length≤k∧∃ i,new[i]? = some k∧o' = H.length + i)
theorem At.inj {H:Heap} {π new:List Nat} {k k2 o o2:Nat} (hn:π.Nodup) (hlt:∀ x ∈ π,x < H.length) (h:At H π new k o) (h2:At H π new k2 o2) (hne:k ≠ k2):o ≠ o2:=by
 rcases h with ⟨h1,h3⟩ | ⟨h1,i,h3,rfl⟩ <;> rcases h2 with ⟨g1,g3⟩ | ⟨g1,j,g3,rfl⟩
 ·intro e
  subst e
  rw [atB h1] at h3
  rw [atB g1] at g3
  have:=(avo hn (h₀:=h1) (h₁:=g1)).1 ((atK h3).trans (atK g3).symm)
  exact hne this
 ·have:=hlt o (atL h3)
  omega
 ·have:=hlt o2 (atL g3)
  omega
 ·intro e
  have:i = j:=by omega
  subst this
  rw [h3] at g3
  exact hne (atK g3)
theorem WU {H E:Heap} {π new:List Nat} {τ:Nat→Nat} (hn:π.Nodup) (hlt:∀ x ∈ π,x < H.length) {k:Nat} {ob:Obj} (hk:aU E k = some ob) (hm:k < π.length∨(π.length≤k∧k ∈ new)) :
  ∃ o' g',bV H π new E k ob.g = some (o',g')∧(bW (bV H π new E) τ H π E 0 π H ++ new.map fun o=>(aU E o).map (aT (bV H π new E) τ 0))[o']? = some (some (aT (bV H π new E) τ g' ob))∧At H π new k o'∧(k < π.length→g' = fO H π k ob.g):=by
 have hl:live E k ob.g = some ob:=by
  unfold aU at hk
  unfold live
  cases h:E[k]? with
  | none=>rw [h] at hk;simp at hk
  | some x =>
   cases x with
   | none=>rw [h] at hk;simp at hk
   | some y =>
    rw [h] at hk
    simp at hk
    subst hk
    simp
 rcases hm with hm | ⟨hm,hmem⟩
 ·obtain ⟨o',ho'⟩:∃ o',π[k]? = some o':=⟨_,atB hm⟩
  have hol:=hlt o' (atL ho')
  refine ⟨o',fO H π k ob.g,?_,?_,.inl ⟨hm,ho'⟩,fun _=>rfl⟩
  ·unfold bV
   rw [hl]
   simp only
   rw [if_pos hm,ho']
   rfl
  ·rw [atE (by rw [jo];exact hol)]
   have:=Fe (ρ:=bV H π new E) (τ:=τ) (H:=H) (π:=π) (H1:=E) π 0 k o' H hn ho' hol
   rw [this,auo,hk]
   rfl
 ·obtain ⟨i,hi,hj⟩:=Lj hmem
  refine ⟨H.length + i,0,?_,?_,.inr ⟨hm,i,hi,rfl⟩,fun h=>by omega⟩
  ·unfold bV
   rw [hl]
   simp only
   rw [if_neg (by omega),hj]
   rfl
  ·rw [atJ (by rw [jo];omega),jo,Nat.add_sub_cancel_left,atI,hi]
   simp [hk]
theorem WV {H E:Heap} {π new:List Nat} {τ:Nat→Nat} {ρ:Nat→Nat→Option (Nat × Nat)} {j:Nat} (hj:j < H.length) (hjp:j ∉ π):(bW ρ τ H π E 0 π H ++ new.map fun o=>(aU E o).map (aT ρ τ 0))[j]? = H[j]?:=by
 rw [atE (by rw [jo];exact hj),yX _ _ _ hjp]
end Go.AM
namespace Go.AM
open Go
section
variable {C:Ctx} {H:Heap} {f:Nat} {T:Cf}
theorem WW {aK:List fB} {v:AV} {H1:Heap} {o g bo:Nat} {ob:Obj} (hi:ids v = [o]) (ht:tags v = []) (hl:live H1 o g = some ob) (hob:ob.ids = false) (hp:ids ob.p = []) (hpm:∀ l,ob.p ≠ .pm l) (htg:ob.tg = 1) (hpt:tags ob.p ≠ []) (h0:aK[0]? = some ⟨[bo],[0]⟩) :
  wrap H [] aK v H1 = some (ren (fun o' g'=>if o' = o∧g' = g then some (H.length,0) else none) (fun t=>t) v,upd H bo none ++ [some { ob with p:=ren (fun _ _=>none) (bM aK) ob.p,g:=0,tg:=0 }]):=by
 obtain ⟨h1,h2⟩:=bQ.1 hl
 unfold wrap
 have hat:aU H1 o = some ob:=by simp [aU,h1]
 have hρ:ren (bV H [] [o] H1) (bM aK) v = ren (fun o' g'=>if o' = o∧g' = g then some (H.length,0) else none) (fun t=>t) v:=by
  have key:∀ o' g',o' ∈ ids v→bV H [] [o] H1 o' g' = if o' = o∧g' = g then some (H.length,0) else none:=by
   intro o' g' hm
   rw [hi] at hm
   simp only [at7] at hm
   subst hm
   unfold bV
   by_cases hg:g' = g
   ·subst hg
    rw [hl]
    simp [idxOf]
   ·have:live H1 o' g' = none:=by
     simp only [live,h1]
     rw [if_neg (fun e=>hg (e.symm.trans h2))]
    rw [this]
    simp [hg]
  exact gq v (fun o' g' hm=>key o' g' hm) (by simp [ht])
 have hto:dA ob = [1]:=by
  unfold dA
  rw [hob,htg]
  cases hq:ob.p <;> first | rfl | exact absurd hq (hpm _)
 have hb1:dL aK 1 = some 0:=by
  unfold dL
  simp [h0,dD,dO]
 have hB1:bM aK 1 = 0:=by unfold bM;rw [hb1];rfl
 have hg1:dG aK 1 = [bo]:=by
  unfold dG
  simp [h0]
 have htN:sG v = []:=avr.2 fun t h=>by have:=BM h;rw [ht] at this;cases this
 have abo:kN ob = [1]:=by unfold kN;rw [if_neg (by simp [hob,hpt]),hto]
 simp only [atY,auZ,at6,hi,xK h1 hob,ht,au,cu,htN,abo,at1,auj,hat,hto,aua,auL,decide_true,avg,aut,strike,bW]
 simp only [avm,awg,hb1,av7,awe,if_true,avt,avJ,hg1,at1,aut,List.contains_cons,beq_self_eq_true,Bool.true_or,avg,strike,atF,atA,atC]
 refine ⟨hρ,?_⟩
 have hr:ren (bV H [] [o] H1) (bM aK) ob.p = ren (fun _ _=>none) (bM aK) ob.p:=gq ob.p (fun o g h=>by rw [hp] at h;cases h) (fun _ _=>rfl)
 simp only [aT,hr,htg,hB1]
theorem Ev1.abp (hT:Below C T) {args xs:List AV} {aK:List fB} {fn:Func} {c:Code} {n bo:Nat} {P:List AV→Prop} {rest:List AV}
  (hF:C.P.funcs[f]? = some fn) (hb:fn.body = some c) (hl:aG C f H 0 args = some (xs,aK)) (h0:aK[0]? = some ⟨[bo],[0]⟩) (hi:aC xs = []) (hn:xs.length + 1 < dn) (hri:aC rest = []) (hrt:aX rest = []) (hnt:dP rest = true)
  (hP:∀ l,P l→aC l = []) (hPt:∀ l,P l→aX l ≠ []) (hPr:∀ l τ,P l→P (bU (fun _ _=>none) τ l))
  (h:aj (nK fun fr H1=>∃ o g ob l,P l∧aP C fr H1 fn.results.toList = some (.sl o 0 n g :: rest)∧H1[o]? = some (some ob)∧ob.p = .pc l∧ob.g = g∧ob.row = true∧ob.ids = false∧ob.tg = 1) C T f 0 c (numbered 0 (coerce C xs (aI C f))) []) :
  ∃ ob' l,P l∧Rw (.pc l) 0 ob'∧Ev1 C f args H (aN (.sl H.length 0 n 0 :: rest),upd H bo none ++ [some ob']):=by
 obtain ⟨⟨ex,fr,H1⟩,⟨he,o,g,ob,l,hPl,hr,ho,hp,hg,hrow,jH,htg⟩,hrun⟩:=h
 simp only at he hr ho
 subst he
 have hre:ren (fun _ _=>none) (bM (aK ++ [⟨[],au (([]:List Nat).map (aU H))⟩])) ob.p = .pc (bU (fun _ _=>none) (bM (aK ++ [⟨[],au (([]:List Nat).map (aU H))⟩])) l):=by rw [hp];simp [ren]
 refine ⟨{ ob with p:=ren (fun _ _=>none) (bM (aK ++ [⟨[],au (([]:List Nat).map (aU H))⟩])) ob.p,g:=0,tg:=0 },bU (fun _ _=>none) (bM (aK ++ [⟨[],au (([]:List Nat).map (aU H))⟩])) l,hPr _ _ hPl,⟨hre,rfl,hrow,jH,rfl⟩,?_⟩
 refine Ev1.of (out:=⟨.ret,fr,H1⟩) (l:=.sl o 0 n g :: rest) hT hF hb hl ?_ ?_ (.inr rfl) hr ?_
 ·rw [hi,dh]
  simp only [atS,decide_eq_true_eq]
  exact ⟨atT.2 fun x _=>jc x.objs,hn⟩
 ·rw [hi,dh,dS xs hi (fun _ _=>rfl)]
  exact hrun
 ·rw [hi,dh]
  have h0':(aK ++ [⟨[],au (([]:List Nat).map (aU H))⟩])[0]? = some ⟨[bo],[0]⟩:=by
   cases aK with
   | nil=>cases h0
   | cons x r=>exact h0
  rw [WW (o:=o) (g:=g) (ob:=ob) (by rw [je (l:=.sl o 0 n g :: rest) hnt];simp [aC,ids,hri]) (by rw [iH (l:=.sl o 0 n g :: rest) hnt];simp [aX,tags,hrt]) (by simp [live,ho,hg]) jH (by rw [hp];exact hP l hPl) (by rw [hp];simp) htg (by rw [hp];exact hPt l hPl) h0']
  rw [qX (w:=.sl H.length 0 n 0) (by simp [ren]) (dS rest hri (fun t ht=>rfl)) (by exact hnt) (by exact hnt)]
end
def fZ (π:List (Nat × Nat)) (k _:Nat):Option (Nat × Nat):=π[k]?
def idN (o g:Nat):Option (Nat × Nat):=some (o,g)
def tz (_:Nat):Nat:=0
section
variable {ρ ρ2 ρ3:Nat→Nat→Option (Nat × Nat)} {τ τ2 τ3:Nat→Nat}
mutual
theorem mY (h:∀ o g,(ρ o g).bind (fun x=>ρ2 x.1 x.2) = ρ3 o g) (ht:∀ t,τ2 (τ t) = τ3 t):(v:AV)→ren ρ2 τ2 (ren ρ τ v) = ren ρ3 τ3 v
 | .ptr o i f g=>by
  have h1:=h o g
  simp only [ren]
  rcases e:ρ o g with _ | ⟨a,b⟩
  ·rw [e] at h1;simp only [Option.bind_none] at h1;simp [ren,← h1]
  ·rw [e] at h1;simp only [auW] at h1;simp [ren,← h1]
 | .sl o i f g=>by
  have h1:=h o g
  simp only [ren]
  rcases e:ρ o g with _ | ⟨a,b⟩
  ·rw [e] at h1;simp only [Option.bind_none] at h1;simp [ren,← h1]
  ·rw [e] at h1;simp only [auW] at h1;simp [ren,← h1]
 | .map o g=>by
  have h1:=h o g
  simp only [ren]
  rcases e:ρ o g with _ | ⟨a,b⟩
  ·rw [e] at h1;simp only [Option.bind_none] at h1;simp [ren,← h1]
  ·rw [e] at h1;simp only [auW] at h1;simp [ren,← h1]
 | .ro c p t=>by simp only [ren,ht]
 | .iZ p i f t=>by simp only [ren,ht]
 | .agg p=>by simp only [ren,mY h ht p]
 | .tup l=>by simp only [ren,uo h ht l]
 | .fn f l=>by simp only [ren,uo h ht l]
 | .pc l=>by simp only [ren,uo h ht l]
 | .pr e l=>by simp only [ren,uo h ht l]
 | .pm l=>by simp only [ren,uo h ht l]
 | .top=>rfl
 | .bool _=>rfl
 | .int _ _=>rfl
 | .str _=>rfl
 | .gI=>rfl
 | .jJ=>rfl
 | .iD=>rfl
 | .pn=>rfl
 | .pb _=>rfl
 | .pi _ _=>rfl
theorem uo (h:∀ o g,(ρ o g).bind (fun x=>ρ2 x.1 x.2) = ρ3 o g) (ht:∀ t,τ2 (τ t) = τ3 t):(l:List AV)→bU ρ2 τ2 (bU ρ τ l) = bU ρ3 τ3 l
 | []=>rfl
 | a :: r=>by simp only [bU,mY h ht a,uo h ht r]
end
end
section
variable {π:List (Nat × Nat)} {τ:Nat→Nat}
def sg (π:List (Nat × Nat)) (k:Nat):Nat:=(π.getD k (0,0)).1
mutual
theorem Eh:(v:AV)→(∀ o ∈ ids v,o < π.length)→ids (ren (fZ π) τ v) = (ids v).map (sg π)
 | .ptr o i f g,h=>by
  have hl:o < π.length:=h o (by simp [ids])
  simp only [ren,fZ,atB hl]
  simp [ids,sg,List.getD,atB hl]
 | .sl o i f g,h=>by
  have hl:o < π.length:=h o (by simp [ids])
  simp only [ren,fZ,atB hl]
  simp [ids,sg,List.getD,atB hl]
 | .map o g,h=>by
  have hl:o < π.length:=h o (by simp [ids])
  simp only [ren,fZ,atB hl]
  simp [ids,sg,List.getD,atB hl]
 | .ro c p t,_=>rfl
 | .iZ p i f t,_=>rfl
 | .agg p,h=>by simp only [ids] at h;simp only [ren,ids,Eh p h]
 | .tup l,h=>by simp only [ids] at h;simp only [ren,ids,uq l h]
 | .fn f l,h=>by simp only [ids] at h;simp only [ren,ids,uq l h]
 | .pc l,h=>by simp only [ids] at h;simp only [ren,ids,uq l h]
 | .pr e l,h=>by simp only [ids] at h;simp only [ren,ids,uq l h]
 | .pm l,h=>by simp only [ids] at h;simp only [ren,ids,uq l h]
 | .top,_=>rfl
 | .bool _,_=>rfl
 | .int _ _,_=>rfl
 | .str _,_=>rfl
 | .gI,_=>rfl
 | .jJ,_=>rfl
 | .iD,_=>rfl
 | .pn,_=>rfl
 | .pb _,_=>rfl
 | .pi _ _,_=>rfl
theorem uq:(l:List AV)→(∀ o ∈ aC l,o < π.length)→aC (bU (fZ π) τ l) = (aC l).map (sg π)
 | [],_=>rfl
 | a :: r,h=>by
  simp only [aC,atM] at h
  simp only [bU,aC,Eh a (fun o ho=>h o (.inl ho)),uq r (fun o ho=>h o (.inr ho)),auA]
end
end
structure Like (t:Nat) (π:List (Nat × Nat)) (g:Nat) (ob0 ob:Obj):Prop where
 p:ren idN tz ob.p = ren (fZ π) tz ob0.p
 gen:ob.g = g
 row:ob.row = ob0.row
 ids:ob.ids = ob0.ids
 bx:ob0.row = false→ob.cap = ob0.cap∧ob.z = ob0.z∧g = 0
 tg:ob.tg = 0∨ob.tg = t
 tp:∀ k ∈ tags ob.p,k = 0∨k = t
structure Img (t:Nat) (H:Heap) (π:List (Nat × Nat)) (S:List Obj):Prop where
 len:π.length = S.length
 nd:∀ (j k oj gj ok gk:Nat),π[j]? = some (oj,gj)→π[k]? = some (ok,gk)→oj = ok→j = k
 ob:∀ (k:Nat) (ob0:Obj),S[k]? = some ob0→∃ o g ob,π[k]? = some (o,g)∧H[o]? = some (some ob)∧Like t π g ob0 ob
def OkS (S:List Obj):Prop:=∀ (k:Nat) (ob0:Obj),S[k]? = some ob0→∀ o ∈ ids ob0.p,o < S.length
def pi0 (K:Nat):List (Nat × Nat):=(List.range K).map fun k=>(k,0)
theorem pY {K k:Nat}:(pi0 K)[k]? = if k < K then some (k,0) else none:=by
 unfold pi0
 rw [atI]
 by_cases h:k < K
 ·rw [auI h,if_pos h];rfl
 ·rw [atP (by simpa using h),if_neg h];rfl
theorem kS {π:List (Nat × Nat)} {k o g:Nat} (h:π[k]? = some (o,g)):sg π k = o:=by simp [sg,List.getD,h]
section
variable {t:Nat} {H:Heap} {π:List (Nat × Nat)} {S:List Obj}
theorem Img.at' (h:Img t H π S) {k:Nat} (hk:k < S.length):∃ o g ob,π[k]? = some (o,g)∧H[o]? = some (some ob)∧Like t π g S[k] ob:=h.ob k S[k] (atB hk)
theorem Img.ids (h:Img t H π S) (hok:OkS S) {k:Nat} {ob0 ob:Obj} {g:Nat} (hk:S[k]? = some ob0) (hl:Like t π g ob0 ob):AM.ids ob.p = (AM.ids ob0.p).map (sg π):=by
 have h1:AM.ids (ren idN tz ob.p) = AM.ids ob.p:=QI.qW ob.p
 rw [← h1,hl.p]
 exact Eh _ fun o ho=>by rw [h.len];exact hok k ob0 hk o ho
theorem Img.Jy (h:Img t H π S) {j k:Nat} (hj:j < S.length) (hk:k < S.length) (e:sg π j = sg π k):j = k:=by
 obtain ⟨o,g,_,h1,_⟩:=h.at' hj
 obtain ⟨o2,g2,_,h2,_⟩:=h.at' hk
 rw [kS h1,kS h2] at e
 exact h.nd j k _ _ _ _ h1 h2 e
theorem Img.fst (h:Img t H π S):π.map Prod.fst = (List.range S.length).map (sg π):=by
 refine auK fun k=>?_
 rw [atI,atI]
 by_cases hk:k < S.length
 ·obtain ⟨o,g,_,h1,_⟩:=h.at' hk
  rw [h1,auI hk]
  simp [kS h1]
 ·rw [atP (by rw [h.len];omega),atP (by simpa using hk)];rfl
theorem Img.nodup (h:Img t H π S):(π.map Prod.fst).Nodup:=by
 rw [h.fst,aur,avz]
 have:=(aur.1 (av1 (n:=S.length)))
 refine List.Pairwise.imp_of_mem ?_ this
 intro a b ha hb hne e
 exact hne (h.Jy (aug.1 ha) (aug.1 hb) e)
theorem Img.lt (h:Img t H π S):∀ x ∈ π.map Prod.fst,x < H.length:=by
 intro x hx
 rw [h.fst] at hx
 obtain ⟨k,hk,rfl⟩:=aub.1 hx
 obtain ⟨o,g,ob,h1,h2,_⟩:=h.at' (aug.1 hk)
 rw [kS h1]
 exact (atD.1 h2).1
theorem Img.sZ {k o g:Nat} (h:π[k]? = some (o,g)):(π.map Prod.fst)[k]? = some o:=by rw [atI,h];rfl
theorem xO (h:Img t H π S) (hok:OkS S):∀ (n:Nat) (l acc:List Nat),(∀ o ∈ l,o < S.length)→(∀ o ∈ acc,o < S.length) →
  reach H n (l.map (sg π)) (acc.map (sg π)) = (reach (S.map some) n l acc).map (sg π)∧∀ o ∈ reach (S.map some) n l acc,o < S.length
 | 0,l,acc,_,ha=>⟨rfl,ha⟩
 | n + 1,[],acc,_,ha=>⟨rfl,ha⟩
 | n + 1,o :: r,acc,hl,ha=>by
  have ho:=hl o (auz ..)
  obtain ⟨o',g,ob,h1,h2,h3⟩:=h.at' ho
  have hc:(acc.map (sg π)).contains (sg π o) = acc.contains o:=by
   rw [Bool.eq_iff_iff]
   simp only [avv,aub]
   constructor
   ·rintro ⟨a,h4,h5⟩
    rw [← h.Jy (ha a h4) ho h5];exact h4
   ·intro h4;exact ⟨o,h4,rfl⟩
  have hS:(S.map some)[o]? = some (some S[o]):=by rw [atI,atB ho];rfl
  simp only [aua,reach]
  rw [hc]
  by_cases hm:acc.contains o = true
  ·rw [if_pos hm,if_pos hm]
   exact xO h hok n r acc (fun x hx=>hl x (auc _ hx)) ha
  ·rw [if_neg hm,if_neg hm,hS,kS h1,h2]
   simp only
   have hi:=h.ids hok (atB ho) h3
   have e:(if ob.ids = true then AM.ids ob.p else []) ++ r.map (sg π) = ((if S[o].ids = true then AM.ids S[o].p else []) ++ r).map (sg π):=by
    rw [h3.ids,hi,auA]
    split <;> rfl
   have e2:acc.map (sg π) ++ [o'] = (acc ++ [o]).map (sg π):=by rw [auA,aua,auj,kS h1]
   rw [e,e2]
   refine xO h hok n _ _ ?_ ?_
   ·intro x hx
    rcases atM.1 hx with hx | hx
    ·split at hx
     ·exact hok o _ (atB ho) x hx
     ·cases hx
    ·exact hl x (auc _ hx)
   ·intro x hx
    rcases atM.1 hx with hx | hx
    ·exact ha x hx
    ·rw [at7.1 hx];exact ho
theorem Ll {l:List Nat} (hn:l.Nodup):∀ {k o i:Nat},l[k]? = some o→idxOf l o i = some (i + k):=by
 induction l with
 | nil=>intro k o i h;simp at h
 | cons a r ih =>
  intro k o i h
  rw [avk] at hn
  unfold idxOf
  cases k with
  | zero =>
   simp at h
   rw [if_pos h];rfl
  | succ k =>
   simp at h
   have:a ≠ o:=fun e=>hn.1 (e ▸ atL h)
   rw [if_neg this,ih hn.2 h]
   congr 1
   omega
theorem Img.dI (h:Img t H π S) (k g0:Nat):(fZ π k g0).bind (fun x=>AM.dI H (π.map Prod.fst) x.1 x.2) = fZ (pi0 S.length) k g0:=by
 unfold fZ
 rw [pY]
 by_cases hk:k < S.length
 ·obtain ⟨o,g,ob,h1,h2,h3⟩:=h.at' hk
  rw [h1,if_pos hk]
  simp only [auW]
  have hl:live H o g = some ob:=bQ.2 ⟨h2,h3.gen⟩
  unfold AM.dI
  rw [hl]
  simp only
  rw [Ll h.nodup (Img.sZ h1)]
  simp
 ·rw [atP (by rw [h.len];omega),if_neg hk];rfl
theorem Img.into (h:Img t H π S) (n:Nat):Img n ((π.map Prod.fst).map fun o=>(aU H o).map (aT (AM.dI H (π.map Prod.fst)) (fun _=>n) 0)) (pi0 S.length) S where
 len:=by simp [pi0]
 nd:=by
  intro j k oj gj ok gk h1 h2 e
  rw [pY] at h1 h2
  split at h1
  ·split at h2
   ·simp only [atA,atC] at h1 h2
    omega
   ·cases h2
  ·cases h1
 ob:=by
  intro k ob0 hk
  obtain ⟨o,g,ob,h1,h2,h3⟩:=h.ob k ob0 hk
  have hlt:=(atD.1 hk).1
  have ht:∀ v:AV,∀ x ∈ tags (ren (AM.dI H (π.map Prod.fst)) (fun _=>n) v),x = n:=by
   intro v x hx
   rw [jM] at hx
   obtain ⟨_,_,rfl⟩:=aub.1 hx
   rfl
  refine ⟨k,0,aT (AM.dI H (π.map Prod.fst)) (fun _=>n) 0 ob,by rw [pY,if_pos hlt],?_,⟨?_,rfl,h3.row,h3.ids,fun hr=>⟨(h3.bx hr).1,(h3.bx hr).2.1,rfl⟩,.inr rfl,fun x hx=>.inr (ht ob.p x hx)⟩⟩
  ·rw [atI,Img.sZ h1]
   simp [aU,h2]
  ·simp only [aT]
   rw [mY (ρ:=AM.dI H (π.map Prod.fst)) (ρ2:=idN) (τ:=fun _=>n) (τ2:=tz) (ρ3:=AM.dI H (π.map Prod.fst)) (τ3:=tz) (fun o g=>by cases AM.dI H (π.map Prod.fst) o g <;> rfl) (fun _=>rfl)]
   rw [← mY (ρ:=idN) (τ:=tz) (ρ2:=AM.dI H (π.map Prod.fst)) (τ2:=tz) (ρ3:=AM.dI H (π.map Prod.fst)) (τ3:=tz) (fun o g=>rfl) (fun _=>rfl) ob.p]
   rw [h3.p]
   exact mY (fun o g=>h.dI o g) (fun _=>rfl) ob0.p
theorem Lm {a b t:Nat} (ha:a = 0∨a = t) (hb:b = 0∨b = t):∃ t',(t' = 0∨t' = t)∧dO a b = some t':=by
 unfold dO
 rcases ha with rfl | rfl
 ·exact ⟨b,hb,by simp⟩
 ·by_cases h0:a = 0
  ·exact ⟨b,hb,by simp [h0]⟩
  ·refine ⟨a,.inr rfl,?_⟩
   rw [if_neg h0,if_pos]
   rcases hb with rfl | rfl
   ·exact .inl rfl
   ·exact .inr rfl
theorem Aa {t:Nat}:∀ l:List Nat,(∀ k ∈ l,k = 0∨k = t)→∃ t',dD l = some t'∧(t' = 0∨t' = t)
 | [],_=>⟨0,rfl,.inl rfl⟩
 | k :: r,hl=>by
  obtain ⟨t',h1,h2⟩:=Aa r fun x hx=>hl x (auc _ hx)
  obtain ⟨t3,h3,h4⟩:=Lm (hl k (auz ..)) h2
  exact ⟨t3,by simp [dD,h1,h4],h3⟩
theorem Like.dA {g:Nat} {ob0 ob:Obj} (h:Like t π g ob0 ob):∀ k ∈ AM.dA ob,k = 0∨k = t:=by
 intro k hk
 unfold AM.dA at hk
 split at hk
 ·exact h.tp k hk
 ·rcases atX.1 hk with rfl | hk
  ·exact h.tg
  ·split at hk
   ·rename_i l hl
    refine h.tp k ?_
    rw [hl];exact hk
   ·cases hk
theorem mZ {t:Nat} {H:Heap}:∀ l:List Nat,(∀ o ∈ l,∀ ob,aU H o = some ob→∀ k ∈ AM.dA ob,k = 0∨k = t)→∀ k ∈ au (l.map (aU H)),k = 0∨k = t
 | [],_,k,hk=>by simp [au] at hk
 | o :: r,h,k,hk=>by
  rw [aua] at hk
  cases ho:aU H o with
  | none =>
   rw [ho,au] at hk
   exact mZ r (fun x hx=>h x (auc _ hx)) k hk
  | some ob =>
   rw [ho,au] at hk
   rcases atM.1 hk with hk | hk
   ·exact h o (auz ..) ob ho k hk
   ·exact mZ r (fun x hx=>h x (auc _ hx)) k hk
theorem Img.OU (h:Img t H π S) {k:Nat} (hk:k < S.length):∀ ob,aU H (sg π k) = some ob→∀ x ∈ AM.dA ob,x = 0∨x = t:=by
 intro ob hob
 obtain ⟨o,g,ob',h1,h2,h3⟩:=h.at' hk
 rw [kS h1] at hob
 have:ob = ob':=by simpa [aU,h2] using hob.symm
 rw [this]
 exact h3.dA
end
def fF (C:Ctx) (f:Nat) (H:Heap) (π:List (Nat × Nat)) (K i:Nat) (xs ys:List AV):Prop :=
 ∃ as aK,aG C f H i xs = some (as,aK)∧(∀ x ∈ aK,disjoint x.objs (π.map Prod.fst) = true)∧bU (dI H (π.map Prod.fst)) (fun t=>t) as = ys ∧
  aC as = (aC ys).map (sg π)∧(∀ o ∈ aC ys,o < K)∧as.length = xs.length∧aK.length = xs.length
section
variable {C:Ctx} {f:Nat} {H:Heap} {π:List (Nat × Nat)} {K i:Nat} {xs ys:List AV}
theorem fF.nil:fF C f H π K i [] []:=⟨[],[],rfl,by simp,rfl,rfl,by simp [aC],rfl,rfl⟩
theorem fF.flat {a:AV} (hrw:C.rw f i = false) (ha:yx a = true) (h:fF C f H π K (i + 1) xs ys):fF C f H π K i (a :: xs) (a :: ys):=by
 obtain ⟨as,aK,h1,h2,h3,h4,h5,h6,h7⟩:=h
 obtain ⟨hi,ht⟩:=Lc ha
 refine ⟨a :: as,⟨[],[]⟩ :: aK,fV hrw ha h1,?_,?_,by simp [aC,hi,h4],by simpa [aC,hi] using h5,by simp [h6],by simp [h7]⟩
 ·intro x hx
  rcases atX.1 hx with rfl | hx
  ·rfl
  ·exact h2 x hx
 ·simp only [bU,h3]
  rw [gU a hi (fun _ _=>rfl)]
def slO:AV→List Nat
 | .sl o _ _ _=>[o]
 | _=>[]
theorem fF.pay {a p:AV} (hrw:C.rw f i = false) (ha:fC H a = some p) (hi:ids p = []) (hd:disjoint (slO a) (π.map Prod.fst) = true) (h:fF C f H π K (i + 1) xs ys):∃ c,fF C f H π K i (a :: xs) (.ro c p (i + 1) :: ys):=by
 obtain ⟨as,aK,h1,h2,h3,h4,h5,h6,h7⟩:=h
 have key:∃ c x,dV H (i + 1) a = some (.ro c p (i + 1),x)∧x.objs = slO a:=by
  cases a <;> simp only [fC,reduceCtorEq] at ha
  case ro c q t' =>
   simp only [atA] at ha
   subst ha
   exact ⟨c,_,rfl,rfl⟩
  case sl o off len g =>
   split at ha
   ·rename_i ob hl
    split at ha
    ·cases ha
    ·rename_i hb
     exact ⟨if ob.z = 0∧ah ob.p = 0 then 0 else 2,⟨[o],[ob.tg]⟩,by simp [dV,dN,hl,hb,ha],rfl⟩
   ·cases ha
 obtain ⟨c,x,hx,hxo⟩:=key
 refine ⟨c,.ro c p (i + 1) :: as,x :: aK,by simp only [aG,hrw,hx,h1],?_,by simp [bU,ren,h3],by simp [aC,ids,h4],by simpa [aC,ids] using h5,by simp [h6],by simp [h7]⟩
 intro y hy
 rcases atX.1 hy with rfl | hy
 ·rw [hxo];exact hd
 ·exact h2 y hy
theorem fF.ptr {t k o a b g:Nat} {S:List Obj} (hI:Img t H π S) (hrw:C.rw f i = false) (hk:π[k]? = some (o,g)) (hK:k < S.length) (h:fF C f H π S.length (i + 1) xs ys):fF C f H π S.length i (.ptr o a b g :: xs) (.ptr k a b 0 :: ys):=by
 obtain ⟨as,aK,h1,h2,h3,h4,h5,h6,h7⟩:=h
 have hin:dI H (π.map Prod.fst) o g = some (k,0):=by
  have:=hI.dI k 0
  unfold fZ at this
  rw [hk,pY,if_pos hK] at this
  simpa using this
 refine ⟨.ptr o a b g :: as,⟨[],[]⟩ :: aK,?_,?_,?_,?_,?_,by simp [h6],by simp [h7]⟩
 ·simp only [aG,hrw]
  simp [dV,dN,tags,h1]
 ·intro x hx
  rcases atX.1 hx with rfl | hx
  ·rfl
  ·exact h2 x hx
 ·simp [bU,ren,hin,h3]
 ·simp [aC,ids,h4,kS hk]
 ·intro x hx
  simp only [aC,ids,atM,at7] at hx
  rcases hx with rfl | hx
  ·exact hK
  ·exact h5 x hx
end
def jG (P:Frame→Heap→Prop) (o:Out):Prop:=(o.ex = .normal∨o.ex = .ret)∧P o.fr o.H
theorem jG.ret {P:Frame→Heap→Prop} {o:Out} (h:nK P o):jG P o:=⟨.inr h.1,h.2⟩
def Leaves (C:Ctx) (rs:List ResultVar) (n:Nat) (S:List Obj) (Q:List Obj→AV→Prop) (fr:Frame) (E:Heap):Prop :=
 ∃ π' S' v0 l,aP C fr E rs = some l∧aN l = ren (fZ π') (fun t=>t) v0∧Img n E π' S'∧OkS S'∧(∀ k ∈ tags v0,k = 0∨k = n)∧(∀ o ∈ ids v0,o < S'.length)∧S.length≤S'.length ∧
  (∀ k:Nat,k < S.length→∃ g,π'[k]? = some (k,g))∧(∀ (k:Nat) (ob ob':Obj),S[k]? = some ob→S'[k]? = some ob'→ob'.row = ob.row) ∧
  (∀ k,S.length≤k→k < S'.length→k ∈ reach (S'.map some) aF (List.range S.length ++ ids v0) [])∧Q S' v0
section
variable {C:Ctx} {T:Cf} {f:Nat} {H:Heap}
theorem Ev1.img (hT:Below C T) {fn:Func} {c:Code} {t n:Nat} {π:List (Nat × Nat)} {S:List Obj} {xs ys:List AV} {Q:List Obj→AV→Prop}
  (hF:C.P.funcs[f]? = some fn) (hb:fn.body = some c) (hI:Img t H π S) (hok:OkS S) (hA:fF C f H π S.length 0 xs ys)
  (hR:reach (S.map some) aF (aC ys) [] = List.range S.length) (hn:xs.length + 1 = n) (hng:n < dn)
  (run:∀ E,E.length = S.length→Img n E (pi0 S.length) S→aj (jG (Leaves C fn.results.toList n S Q)) C T f S.length c (numbered 0 (coerce C ys (aI C f))) E) :
  ∃ π'' S' v0 H' τf,Ev1 C f xs H (ren (fZ π'') τf v0,H')∧(∀ k ∈ tags v0,τf k = 0∨τf k = t)∧Img t H' π'' S'∧OkS S'∧(∀ o ∈ ids v0,o < S'.length)∧Q S' v0∧H.length≤H'.length ∧
   (∀ (k o g:Nat),π[k]? = some (o,g)→∃ g',π''[k]? = some (o,g'))∧(∀ (k o g:Nat),S.length≤k→π''[k]? = some (o,g)→H.length≤o) ∧
   (∀ j,j < H.length→(∀ (k o g:Nat),π[k]? = some (o,g)→j ≠ o)→H'[j]? = H[j]?):=by
 obtain ⟨as,aK,h1,h2,h3,h4,h5,h6,h7⟩:=hA
 have hr1:reach H aF (aC as) [] = π.map Prod.fst:=by
  have:=(xO hI hok aF (aC ys) [] h5 (by simp)).1
  rw [auj] at this
  rw [h4,this,hR,hI.fst]
 have hpl:(π.map Prod.fst).length = S.length:=by rw [auJ,hI.len]
 have hE:=hI.into n
 have hEl:((π.map Prod.fst).map fun o=>(aU H o).map (aT (dI H (π.map Prod.fst)) (fun _=>n) 0)).length = S.length:=by rw [auJ,hpl]
 obtain ⟨⟨ex,fr,E⟩,⟨he,π',S',v0,l,r1,r2,r3,r4,r5,r6,r7,r8,r9,r10,r11⟩,hrun⟩:=run _ hEl hE
 simp only at he r1 r3
 have hlt:=hI.lt
 have hnd:=hI.nodup
 -- what is left behind
 have hri:=xO r3 r4 aF (List.range S.length ++ ids v0) [] (fun o ho=>by
  rcases atM.1 ho with ho | ho
  ·have:=aug.1 ho;omega
  ·exact r6 o ho) (by simp)
 have aom:ids (aN l) = (ids v0).map (sg π'):=by rw [r2];exact Eh v0 fun o ho=>by rw [r3.len];exact r6 o ho
 have hrange:(List.range S.length).map (sg π') = List.range S.length:=by
  refine auK fun k=>?_
  rw [atI]
  by_cases hk:k < S.length
  ·obtain ⟨g,hg⟩:=r8 k hk
   rw [auI hk]
   simp [kS hg]
  ·rw [atP (by simpa using hk)];rfl
 generalize hRR:reach (S'.map some) aF (List.range S.length ++ ids v0) [] = R at *
 have hK:reach E aF (List.range (π.map Prod.fst).length ++ ids (aN l)) [] = R.map (sg π'):=by
  rw [hpl,aom,← hri.1,auA,hrange,auj]
 obtain ⟨t',hjt,htt⟩:=Aa (t:=t) (au ((π.map Prod.fst).map (aU H))) (mZ _ fun o ho ob hob=>by
  rw [hI.fst] at ho
  obtain ⟨k,hk,rfl⟩:=aub.1 ho
  exact hI.OU (aug.1 hk) ob hob)
 have hal:as.length + 1 = n:=by omega
 have hn0:0 < n:=by omega
 -- new objects
 generalize hnew:(R.map (sg π')).filter (fun o=>decide ((π.map Prod.fst).length≤o)) = new
 have WX:∀ k,S.length≤k→k < S'.length→sg π' k ∈ new∧S.length≤sg π' k:=by
  intro k hk hk2
  have hge:S.length≤sg π' k:=by
   refine Classical.byContradiction fun hc=>?_
   have hc:sg π' k < S.length:=by omega
   obtain ⟨g,hg⟩:=r8 _ hc
   obtain ⟨o,g2,_,h8,_⟩:=r3.at' hk2
   have e:=kS h8
   rw [e] at hg hc
   have:=r3.nd k o _ _ _ _ h8 hg rfl
   omega
  refine ⟨?_,hge⟩
  rw [← hnew,au0]
  exact ⟨aub.2 ⟨k,r10 k hk hk2,rfl⟩,by simpa [hI.len] using hge⟩
 have hmem:∀ k,k < S'.length→sg π' k < (π.map Prod.fst).length∨((π.map Prod.fst).length≤sg π' k∧sg π' k ∈ new):=by
  intro k hk
  rw [hpl]
  by_cases hk2:k < S.length
  ·obtain ⟨g,hg⟩:=r8 k hk2
   rw [kS hg];exact .inl hk2
  ·obtain ⟨q1,q2⟩:=WX k (by omega) hk
   exact .inr ⟨q2,q1⟩
 have hbt:∀ k,k = 0∨k = n→dL (aK ++ [⟨[],au ((π.map Prod.fst).map (aU H))⟩]) k = some (bk n t' k):=by
  rintro k (rfl | rfl)
  ·unfold dL bk
   rw [if_pos rfl,if_neg (by omega)]
  ·unfold dL bk
   rw [if_neg (by omega),if_pos rfl]
   rw [atJ (by omega),show k - 1 - aK.length = 0 by omega]
   simp only [aud]
   exact hjt
 have hgo:∀ k,k = 0∨k = n→dG (aK ++ [⟨[],au ((π.map Prod.fst).map (aU H))⟩]) k = []:=by
  rintro k (rfl | rfl)
  ·rfl
  ·unfold dG
   rw [if_neg (by omega)]
   rw [atJ (by omega),show k - 1 - aK.length = 0 by omega]
   rfl
 generalize hL:(aK ++ [⟨[],au ((π.map Prod.fst).map (aU H))⟩]:List fB) = L at hbt hgo
 have hbT:∀ k,k = 0∨k = n→bM L k = bk n t' k:=fun k hk=>by unfold bM;rw [hbt k hk];rfl
 have hb0:bM L 0 = 0:=by rw [hbT 0 (.inl rfl)];unfold bk;rw [if_neg (by omega)]
 have abq:∀ k,k = 0∨k = n→bM L k = 0∨bM L k = t:=by
  intro k hk
  rw [hbT k hk]
  unfold bk
  split
  ·exact htt
  ·exact .inl rfl
 have htv:∀ k ∈ tags (aN l),k = 0∨k = n:=by
  intro k hk
  rw [r2,jM] at hk
  simp only [List.map_id'] at hk
  exact r5 k hk
 have hus:∀ x ∈ tags (aN l) ++ au ((List.range (π.map Prod.fst).length).map (aU E)) ++ au (new.map (aU E)),x = 0∨x = n:=by
  intro x hx
  rcases atM.1 hx with hx | hx
  ·rcases atM.1 hx with hx | hx
   ·exact htv x hx
   ·refine mZ _ ?_ x hx
    intro o ho ob hob
    have ho:=aug.1 ho
    rw [hpl] at ho
    obtain ⟨g,hg⟩:=r8 o ho
    have:=r3.OU (k:=o) (by omega) ob
    rw [kS hg] at this
    exact this hob
  ·refine mZ _ ?_ x hx
   intro o ho ob hob
   rw [← hnew,au0] at ho
   obtain ⟨k,hk,rfl⟩:=aub.1 ho.1
   exact r3.OU (hri.2 k hk) ob hob
 -- back
 have hback:∀ (k:Nat) (ob0:Obj),S'[k]? = some ob0→∃ o' g' ob' o'' g'',π'[k]? = some (o',g')∧E[o']? = some (some ob')∧Like n π' g' ob0 ob'∧bV H (π.map Prod.fst) new E o' g' = some (o'',g'') ∧
   (bW (bV H (π.map Prod.fst) new E) (bM L) H (π.map Prod.fst) E 0 (π.map Prod.fst) H ++ new.map fun o=>(aU E o).map (aT (bV H (π.map Prod.fst) new E) (bM L) 0))[o'']? = some (some (aT (bV H (π.map Prod.fst) new E) (bM L) g'' ob')) ∧
   At H (π.map Prod.fst) new o' o''∧(o' < (π.map Prod.fst).length→g'' = fO H (π.map Prod.fst) o' ob'.g):=by
  intro k ob0 hk
  obtain ⟨o',g',ob',q1,q2,q3⟩:=r3.ob k ob0 hk
  have hkl:=(atD.1 hk).1
  have hm:=hmem k hkl
  rw [kS q1] at hm
  obtain ⟨o'',g'',e1,e2,e3,e4⟩:=WU (τ:=bM L) (new:=new) hnd hlt (show aU E o' = some ob' by simp [aU,q2]) hm
  rw [q3.gen] at e1
  exact ⟨o',g',ob',o'',g'',q1,q2,q3,e1,e2,e3,e4⟩
 generalize hH':bW (bV H (π.map Prod.fst) new E) (bM L) H (π.map Prod.fst) E 0 (π.map Prod.fst) H ++ (new.map fun o=>(aU E o).map (aT (bV H (π.map Prod.fst) new E) (bM L) 0)) = H' at hback
 have DV:∀ k g0,(fZ π' k g0).bind (fun x=>bV H (π.map Prod.fst) new E x.1 x.2) = fZ (π'.map fun x=>(bV H (π.map Prod.fst) new E x.1 x.2).getD (0,0)) k g0:=by
  intro k g0
  unfold fZ
  rw [atI]
  by_cases hk:k < S'.length
  ·obtain ⟨o',g',ob',o'',g'',q1,_,_,q4,_⟩:=hback k _ (atB hk)
   rw [q1]
   simp [q4]
  ·rw [atP (by rw [r3.len];omega)];rfl
 have hat:∀ k o g,(π'.map fun x=>(bV H (π.map Prod.fst) new E x.1 x.2).getD (0,0))[k]? = some (o,g)→k < S'.length∧∃ o' g',π'[k]? = some (o',g')∧bV H (π.map Prod.fst) new E o' g' = some (o,g)∧At H (π.map Prod.fst) new o' o:=by
  intro k o g hk
  rw [atI] at hk
  have hkl:k < S'.length:=by
   refine Classical.byContradiction fun hc=>?_
   rw [atP (by rw [r3.len];omega)] at hk
   cases hk
  obtain ⟨o',g',ob',o'',g'',q1,_,_,q4,_,q6,_⟩:=hback k _ (atB hkl)
  rw [q1] at hk
  simp only [atF,q4,aus,atA,atC] at hk
  obtain ⟨rfl,rfl⟩:=hk
  exact ⟨hkl,o',g',q1,q4,q6⟩
 refine ⟨π'.map fun x=>(bV H (π.map Prod.fst) new E x.1 x.2).getD (0,0),S',v0,H',bM L,?_,fun k hk=>abq k (r5 k hk),?_,r4,r6,r11,?_,?_,?_,?_⟩
 ·refine Ev1.of (out:=⟨ex,fr,E⟩) (l:=l) hT hF hb h1 ?_ ?_ he r1 ?_
  ·rw [hr1]
   simp only [atS,decide_eq_true_eq]
   exact ⟨atT.2 h2,by omega⟩
  ·rw [hr1,h3,hal,hpl]
   exact hrun
  ·rw [hr1]
   unfold wrap
   simp only [hK,hnew,hL]
   rw [if_pos (atT.2 fun k hk=>by rw [hbt k (hus k hk)];rfl)]
   rw [show (tags (aN l) ++ au ((List.range (π.map Prod.fst).length).map (aU E)) ++ au (new.map (aU E))).flatMap (dG L) = [] from avh.2 fun k hk=>hgo k (hus k hk)]
   simp only [aut,strike,hH',atA,atC,and_true]
   rw [r2,mY (ρ3:=fZ (π'.map fun x=>(bV H (π.map Prod.fst) new E x.1 x.2).getD (0,0))) (τ3:=bM L) DV (fun _=>rfl)]
 ·refine ⟨by rw [auJ,r3.len],?_,?_⟩
  ·intro j k oj gj ok gk e1 e2 e
   obtain ⟨hj,o1,g1,p1,p2,p3⟩:=hat j oj gj e1
   obtain ⟨hk,o2,g2,p4,p5,p6⟩:=hat k ok gk e2
   refine Classical.byContradiction fun hne=>?_
   have ho:o1 ≠ o2:=fun e=>hne (r3.nd j k _ _ _ _ p1 p4 e)
   exact At.inj hnd hlt p3 p6 ho e
  ·intro k ob0 hk
   obtain ⟨o',g',ob',o'',g'',q1,q2,q3,q4,q5,q6,q7⟩:=hback k ob0 hk
   refine ⟨o'',g'',aT (bV H (π.map Prod.fst) new E) (bM L) g'' ob',by rw [atI,q1];simp [q4],q5,⟨?_,rfl,q3.row,q3.ids,?_,?_,?_⟩⟩
   ·simp only [aT]
    rw [mY (ρ:=bV H (π.map Prod.fst) new E) (ρ2:=idN) (τ:=bM L) (τ2:=tz) (ρ3:=bV H (π.map Prod.fst) new E) (τ3:=tz) (fun o g=>by cases bV H (π.map Prod.fst) new E o g <;> rfl) (fun _=>rfl)]
    rw [← mY (ρ:=idN) (τ:=tz) (ρ2:=bV H (π.map Prod.fst) new E) (τ2:=tz) (ρ3:=bV H (π.map Prod.fst) new E) (τ3:=tz) (fun o g=>rfl) (fun _=>rfl) ob'.p]
    rw [q3.p]
    exact mY DV (fun _=>rfl) ob0.p
   ·intro hr
    obtain ⟨b1,b2,b3⟩:=q3.bx hr
    refine ⟨b1,b2,?_⟩
    by_cases hkS:k < S.length
    ·obtain ⟨g,hg⟩:=r8 k hkS
     rw [q1] at hg
     simp only [atA,atC] at hg
     obtain ⟨rfl,rfl⟩:=hg
     obtain ⟨o0,g0,ob1,s1,s2,s3⟩:=hI.at' hkS
     have hrow:=r9 o' _ _ (atB hkS) hk
     have hg0:=(s3.bx (by rw [← hrow];exact hr)).2.2
     rw [q7 (by rw [hpl];exact hkS)]
     unfold fO
     rw [Img.sZ s1]
     have:aU H o0 = some ob1:=by simp [aU,s2]
     simp only [this,s3.gen,hg0,q3.gen,b3,if_true]
    ·have:=(WX k (by omega) (atD.1 hk).1).2
     rw [kS q1] at this
     unfold bV at q4
     split at q4
     ·rw [hpl,if_neg (by omega)] at q4
      cases hx:idxOf new o' H.length with
      | none=>rw [hx] at q4;cases q4
      | some x=>rw [hx] at q4;simp at q4;exact q4.2.symm
     ·cases q4
   ·exact abq _ q3.tg
   ·intro x hx
    simp only [aT] at hx
    rw [jM] at hx
    obtain ⟨y,hy,rfl⟩:=aub.1 hx
    exact abq y (q3.tp y hy)
 ·rw [← hH',atQ,jo];omega
 ·intro k o g hk
  have hkS:k < S.length:=by
   rw [← hI.len]
   exact (atD.1 hk).1
  obtain ⟨o',g',ob',o'',g'',q1,q2,q3,q4,q5,q6,q7⟩:=hback k _ (atB (show k < S'.length by omega))
  refine ⟨g'',?_⟩
  rw [atI,q1]
  obtain ⟨g2,hg2⟩:=r8 k hkS
  rw [q1] at hg2
  simp only [atA,atC] at hg2
  obtain ⟨rfl,rfl⟩:=hg2
  simp only [atF,q4,aus,atA,atC,and_true]
  rcases q6 with ⟨_,h8⟩ | ⟨h8,_⟩
  ·rw [Img.sZ hk] at h8
   exact (atK h8).symm
  ·rw [hpl] at h8;omega
 ·intro k o g hk ho
  obtain ⟨hkl,o',g',p1,p2,p3⟩:=hat k o g ho
  have:=(WX k hk hkl).2
  rw [kS p1] at this
  rcases p3 with ⟨h8,_⟩ | ⟨_,i,_,h8⟩
  ·rw [hpl] at h8;omega
  ·omega
 ·intro j hj hjn
  rw [← hH']
  refine WV hj ?_
  intro hm
  obtain ⟨x,hx,hx2⟩:=aub.1 hm
  obtain ⟨k,hk,hk2⟩:=avq.1 hx
  exact hjn k x.1 x.2 (by rw [atB hk,hk2]) hx2.symm
end
theorem dR {α:Type} {H:List α} {j:Nat} {y:α} (h:H[j]? = some y):j < H.length:=(atD.1 h).1
theorem setAt {α:Type} {H:List α} {j:Nat} {y x:α} (h:H[j]? = some y):(H.set j x)[j]? = some x:=by
 rw [auF (dR h)]
theorem qO {α:Type} {H:List α} {j k:Nat} {y x:α} (h:H[j]? = some y) (hne:k ≠ j):(H.set k x)[j]? = some y:=by
 rw [atW hne];exact h
theorem G8 {α:Type} {H r:List α} {j:Nat} {y:α} (h:H[j]? = some y):(H ++ r)[j]? = some y:=by
 rw [atE (dR h)];exact h
section
variable {x p:AV}
theorem Y8 {o i f g:Nat} (h:ren idN tz x = .ptr o i f g):x = .ptr o i f g:=by
 cases x <;> simp only [ren,idN,reduceCtorEq] at h <;> exact h
theorem Bj {o i f g:Nat} (h:ren idN tz x = .sl o i f g):x = .sl o i f g:=by
 cases x <;> simp only [ren,idN,reduceCtorEq] at h <;> exact h
theorem YC {o g:Nat} (h:ren idN tz x = .map o g):x = .map o g:=by
 cases x <;> simp only [ren,idN,reduceCtorEq] at h <;> exact h
theorem mQ {k:IntKind} {n:Int} (h:ren idN tz x = .int k n):x = .int k n:=by
 cases x <;> simp only [ren,idN,reduceCtorEq] at h <;> exact h
theorem Jf {l:List UInt8} (h:ren idN tz x = .pb l):x = .pb l:=by
 cases x <;> simp only [ren,idN,reduceCtorEq] at h <;> exact h
theorem abr {k:IntKind} {l:List Int} (h:ren idN tz x = .pi k l):x = .pi k l:=by
 cases x <;> simp only [ren,idN,reduceCtorEq] at h <;> exact h
theorem vV {c t:Nat} (h:ren idN tz x = .ro c p t):∃ τ,x = .ro c p τ:=by
 cases x <;> simp only [ren,idN,reduceCtorEq,AV.ro.injEq] at h
 obtain ⟨rfl,rfl,_⟩:=h
 exact ⟨_,rfl⟩
theorem vU {l:List AV} (h:ren idN tz x = .pc l):∃ l',x = .pc l'∧bU idN tz l' = l:=by
 cases x <;> simp only [ren,idN,reduceCtorEq,AV.pc.injEq] at h
 exact ⟨_,rfl,h⟩
theorem aaY {l:List AV} (h:ren idN tz x = .pm l):∃ l',x = .pm l'∧bU idN tz l' = l:=by
 cases x <;> simp only [ren,idN,reduceCtorEq,AV.pm.injEq] at h
 exact ⟨_,rfl,h⟩
theorem fD {a:AV} {l r:List AV} (h:bU idN tz l = a :: r):∃ x l',l = x :: l'∧ren idN tz x = a∧bU idN tz l' = r:=by
 cases l with
 | nil=>simp [bU] at h
 | cons x l' =>
  simp only [bU,avb] at h
  exact ⟨x,l',rfl,h.1,h.2⟩
theorem oP {l:List AV} (h:bU idN tz l = []):l = []:=by
 cases l with
 | nil=>rfl
 | cons x l'=>simp [bU] at h
end
def rQ (H:Heap):AV→Nat
 | .ro c _ _=>c
 | .sl o _ _ g=>match live H o g with
  | some ob=>if ob.z = 0∧ah ob.p = 0 then 0 else 2
  | none=>0
 | _=>0
section
variable {C:Ctx} {f:Nat} {H:Heap} {π:List (Nat × Nat)} {K i:Nat} {xs ys:List AV}
theorem fF.UH {a p:AV} (hrw:C.rw f i = false) (ha:fC H a = some p) (hi:ids p = []) (hd:disjoint (slO a) (π.map Prod.fst) = true) (h:fF C f H π K (i + 1) xs ys):fF C f H π K i (a :: xs) (.ro (rQ H a) p (i + 1) :: ys):=by
 obtain ⟨as,aK,h1,h2,h3,h4,h5,h6,h7⟩:=h
 have key:∃ x,dV H (i + 1) a = some (.ro (rQ H a) p (i + 1),x)∧x.objs = slO a:=by
  cases a <;> simp only [fC,reduceCtorEq] at ha
  case ro c q t' =>
   simp only [atA] at ha
   subst ha
   exact ⟨_,rfl,rfl⟩
  case sl o off len g =>
   split at ha
   ·rename_i ob hl
    split at ha
    ·cases ha
    ·rename_i hb
     exact ⟨⟨[o],[ob.tg]⟩,by simp [dV,dN,hl,hb,ha,rQ],rfl⟩
   ·cases ha
 obtain ⟨x,hx,hxo⟩:=key
 refine ⟨.ro (rQ H a) p (i + 1) :: as,x :: aK,by simp only [aG,hrw,hx,h1],?_,by simp [bU,ren,h3],by simp [aC,ids,h4],by simpa [aC,ids] using h5,by simp [h6],by simp [h7]⟩
 intro y hy
 rcases atX.1 hy with rfl | hy
 ·rw [hxo];exact hd
 ·exact h2 y hy
end
theorem Leaves.plain {C:Ctx} {rs:List ResultVar} {n:Nat} {S S':List Obj} {Q:List Obj→AV→Prop} {fr:Frame} {E:Heap} {π':List (Nat × Nat)} {l:List AV}
  (hr:aP C fr E rs = some l) (hi:aC l = []) (ht:aX l = []) (hnt:dP l = true) (hI:Img n E π' S') (hok:OkS S') (hl:S.length≤S'.length)
  (hf:∀ k:Nat,k < S.length→∃ g,π'[k]? = some (k,g)) (hrow:∀ (k:Nat) (ob ob':Obj),S[k]? = some ob→S'[k]? = some ob'→ob'.row = ob.row)
  (hR:∀ k,S.length≤k→k < S'.length→k ∈ reach (S'.map some) aF (List.range S.length) []) (hq:Q S' (aN l)):Leaves C rs n S Q fr E:=by
 have h1:ids (aN l) = []:=by rw [je hnt];exact hi
 have h2:tags (aN l) = []:=by rw [iH hnt];exact ht
 exact ⟨π',S',aN l,l,hr,(gU _ h1 (fun _ _=>rfl)).symm,hI,hok,(by simp [h2]),by simp [h1],hl,hf,hrow,fun k a b=>by rw [h1,at1];exact hR k a b,hq⟩
end Go.AM
