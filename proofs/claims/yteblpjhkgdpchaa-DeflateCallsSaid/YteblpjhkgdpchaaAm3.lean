/- The abstract machine, part 3: a deterministic evaluator for the program's code and the proof that what it tells is so. Conditions: none beyond the theorems' own. -/
import Derived.Attr
import Derived.ChangeCalls
import Derived.LaidHandle
import Derived.LaidLaws
import Derived.Lib.LaidTab
import Derived.MakeChecks
import Derived.ProofKit
import Derived.Stop.Joined
import Derived.Test.YteblpjhkgdpchaaAm2
set_option linter.unusedSimpArgs false
set_option linter.unusedVariables false
set_option maxRecDepth 100000
set_option maxHeartbeats 8000000
namespace Go.AM
def Jy:Ex→Exit
 | .normal=>.normal
 | .exit id=>.exit id
 | .ret=>.ret
def Left (C:Ctx) (T:Nat→Nat→Prop) (m:Nat) (K0:Kx) (nt:Nat) (out:Out) (e:Exit) (a:Act) (w:World):Prop :=
 e = Jy out.ex∧Now C T m K0 nt out.fr out.H a w
theorem least {J:Nat→Prop} (h:∃ k,J k):∃ k,J k∧∀ j,J j→k≤j:=by
 obtain ⟨k,hk⟩:=h
 induction k using Nat.strongRecOn with
 | _ k ih =>
  by_cases hx:∃ j,j < k∧J j
  ·obtain ⟨j,h1,h2⟩:=hx
   exact ih j h1 h2
  ·exact ⟨k,hk,fun j hj=>Nat.le_of_not_lt fun h=>hx ⟨j,h,hj⟩⟩
open Classical in
noncomputable def GR (J:Act→World→Nat→Prop) (a:Act) (w:World):Nat :=
 if h:∃ k,J a w k then Classical.choose (least h) else 0
theorem AA {J:Act→World→Nat→Prop} {a:Act} {w:World} (h:∃ k,J a w k):J a w (GR J a w)∧∀ j,J a w j→GR J a w≤j:=by
 unfold GR
 rw [dif_pos h]
 exact Classical.choose_spec (least h)
theorem GU {P:Program} {Q:Exit→Act→World→Prop} {c:Code} {a:Act} {w:World} (J:Act→World→Nat→Prop) (n:Nat) (h0:J a w n)
  (round:∀ a w n,J a w n→c.wp P (Exit.then (fun a' w'=>∃ k,k < n∧J a' w' k) Q) a w):(Code.loop c).wp P Q a w:=by
 refine wp_loop (fun a w=>∃ k,J a w k) (GR J) ⟨n,h0⟩ fun a w h=>?_
 obtain ⟨h1,h2⟩:=AA h
 refine wp_mono (round a w _ h1) fun e a' w' hq=>?_
 cases e <;> simp only [Exit.then] at hq ⊢ <;> try exact hq
 obtain ⟨k,h3,h4⟩:=hq
 exact ⟨⟨k,h4⟩,Nat.lt_of_le_of_lt ((AA ⟨k,h4⟩).2 k h4) h3⟩
section
variable {C:Ctx} {T:Nat→Nat→Prop} {m nt:Nat} {K0:Kx}
theorem nS {cf:Cf} (hcf:zF C cf) (hct:lV C cf) {f n:Nat} (qZ:C.P.follows .mixedOrders = true):(c:Code)→jr C f c = true→∀ {fr:Frame} {H:Heap} {a:Act} {w:World} {out:Out},
  exec C cf f m n c fr H = some out→Now C T m K0 (gU C f) fr H a w→c.wp C.P (Left C T m K0 (gU C f) out) a w
 | .skip,_,fr,H,a,w,out,h,hN=>by
  simp only [exec,Option.some.injEq] at h
  subst h
  exact wp_skip ⟨rfl,hN⟩
 | .region id ops draw,hdr,fr,H,a,w,out,h,hN=>by
  simp only [exec] at h
  have hQ:∀ fr' H',out = iR C f m id fr' H'→∀ a' w',Now C T m K0 (gU C f) fr' H' a' w'→Left C T m K0 (gU C f) out .normal a' w':=fun fr' H' e a' w' hN'=>by
   subst e
   obtain ⟨h1,h2⟩:=hN'.after f id
   exact ⟨by rw [h1];rfl,h2⟩
  split at h
  ·rename_i hdy
   simp only [Bool.and_eq_true] at hdy
   obtain ⟨rfl,hdy⟩:=hdy
   simp only [jr,Bool.not_true,hdy,if_true,Bool.false_or] at hdr
   split at h
   ·rename_i fr' H' ms hr
    split at h
    ·rename_i hok
     simp only [Option.some.injEq] at h
     rcases Bool.or_eq_true _ _ ▸ hok with hok | hok
     ·exact Py hcf hct qZ hdr hr hok hN (hQ fr' H' h.symm)
     ·simp only [Bool.and_eq_true] at hok
      exact N8 hcf hct qZ hdr hok.1 hok.2 hr hN (hQ fr' H' h.symm)
    ·cases h
   ·cases h
  ·rename_i aec
   split at h
   ·cases h
   ·rename_i hd
    split at h
    ·rename_i fr' H' hr
     simp only [Option.some.injEq] at h
     cases draw with
     | true =>
      have hid:C.dr f id = true:=by simpa using hd
      have hdy:C.dy f id = false:=by simpa using aec
      simp only [jr,hid,hdy,Bool.not_true,Bool.false_or,Bool.false_eq_true,if_false] at hdr
      exact RJ hcf hct qZ hdr hr hN (hQ fr' H' h.symm)
     | false =>
      refine wp_region ?_
      have:=zM hcf (Q:=Left C T m K0 (gU C f) out) ops.toList 0 rfl hr hN (hQ fr' H' h.symm)
      rwa [Array.length_toList,← List.range_eq_range'] at this
    ·cases h
 | .seq x y,hdr,fr,H,a,w,out,h,hN=>by
  simp only [jr,Bool.and_eq_true] at hdr
  obtain ⟨hd1,hd2⟩:=hdr
  simp only [exec] at h
  split at h
  ·rename_i fr' H' hx
   refine wp_seq (wp_mono (nS hcf hct qZ x hd1 hx hN) fun e a' w' hl=>?_)
   obtain ⟨rfl,hN'⟩:=hl
   exact nS hcf hct qZ y hd2 h hN'
  ·rename_i hne
   refine wp_seq (wp_mono (nS hcf hct qZ x hd1 h hN) fun e a' w' hl=>?_)
   obtain ⟨rfl,hN'⟩:=hl
   cases hx:out.ex with
   | normal =>
    obtain ⟨ex,fr',H'⟩:=out
    simp only at hx
    subst hx
    exact absurd h (hne _ _)
   | exit id=>simp only [Jy,Exit.then];exact ⟨by rw [hx];rfl,hN'⟩
   | ret=>simp only [Jy,Exit.then];exact ⟨by rw [hx];rfl,hN'⟩
 | .cond c x y,hdr,fr,H,a,w,out,h,hN=>by
  simp only [jr,Bool.and_eq_true] at hdr
  obtain ⟨hd1,hd2⟩:=hdr
  simp only [exec] at h
  split at h
  ·rename_i d hd
   have hc:a.eval c = .bool d:=by
    obtain ⟨μ,hI,_,hf,_⟩:=hN
    have:=vN hI hf c
    rw [hd] at this
    simpa [aF,aH,aX,RV] using this
   refine wp_cond hc ?_
   cases d with
   | true=>exact nS hcf hct qZ x hd1 h hN
   | false=>exact nS hcf hct qZ y hd2 h hN
  ·cases h
 | .block id c,hdr,fr,H,a,w,out,h,hN=>by
  simp only [jr] at hdr
  simp only [exec] at h
  split at h
  ·rename_i id' fr' H' hx
   refine wp_block (wp_mono (nS hcf hct qZ c hdr hx hN) fun e a' w' hl=>?_)
   obtain ⟨rfl,hN'⟩:=hl
   simp only [Jy,Exit.inBlock]
   split at h
   ·rename_i he
    simp only [Option.some.injEq] at h
    subst h
    rw [if_pos he]
    exact ⟨rfl,hN'⟩
   ·rename_i he
    simp only [Option.some.injEq] at h
    subst h
    rw [if_neg he]
    exact ⟨rfl,hN'⟩
  ·rename_i hne
   refine wp_block (wp_mono (nS hcf hct qZ c hdr h hN) fun e a' w' hl=>?_)
   obtain ⟨rfl,hN'⟩:=hl
   cases hx:out.ex with
   | normal=>simp only [Jy,Exit.inBlock];exact ⟨by rw [hx];rfl,hN'⟩
   | exit id =>
    obtain ⟨ex,fr',H'⟩:=out
    simp only at hx
    subst hx
    exact absurd h (hne _ _ _)
   | ret=>simp only [Jy,Exit.inBlock];exact ⟨by rw [hx];rfl,hN'⟩
 | .loop c,hdr,fr,H,a,w,out,h,hN=>by
  simp only [jr] at hdr
  simp only [exec] at h
  refine GU (fun a w k=>∃ fr H,nX (exec C cf f m n c) k fr H = some out∧Now C T m K0 (gU C f) fr H a w) n ⟨fr,H,h,hN⟩ ?_
  rintro a w k ⟨fr,H,hk,hN⟩
  cases k with
  | zero=>simp [nX] at hk
  | succ k =>
   simp only [nX] at hk
   split at hk
   ·rename_i fr' H' hx
    refine wp_mono (nS hcf hct qZ c hdr hx hN) fun e a' w' hl=>?_
    obtain ⟨rfl,hN'⟩:=hl
    exact ⟨k,Nat.lt_succ_self k,fr',H',hk,hN'⟩
   ·rename_i hne
    refine wp_mono (nS hcf hct qZ c hdr hk hN) fun e a' w' hl=>?_
    obtain ⟨rfl,hN'⟩:=hl
    cases hx:out.ex with
    | normal =>
     obtain ⟨ex,fr',H'⟩:=out
     simp only at hx
     subst hx
     exact absurd hk (hne _ _)
    | exit id=>simp only [Jy,Exit.then];exact ⟨by rw [hx];rfl,hN'⟩
    | ret=>simp only [Jy,Exit.then];exact ⟨by rw [hx];rfl,hN'⟩
 | .exit id,_,fr,H,a,w,out,h,hN=>by
  simp only [exec,Option.some.injEq] at h
  subst h
  exact wp_exit ⟨rfl,hN⟩
 | .ret,_,fr,H,a,w,out,h,hN=>by
  simp only [exec,Option.some.injEq] at h
  subst h
  exact wp_ret ⟨rfl,hN⟩
 | .scope ..,_,fr,H,a,w,out,h,hN=>by simp [exec] at h
 | .label ..,_,fr,H,a,w,out,h,hN=>by simp [exec] at h
 | .goto ..,_,fr,H,a,w,out,h,hN=>by simp [exec] at h
 | .refuse ..,_,fr,H,a,w,out,h,hN=>by simp [exec] at h
 | .rangeFunc ..,_,fr,H,a,w,out,h,hN=>by simp [exec] at h
end
structure EW (C:Ctx):Prop where
 mix:C.P.follows .mixedOrders = true
 draws:∀ f fn c,C.P.funcs[f]? = some fn→fn.body = some c→jr C f c = true
section
variable {C:Ctx} {T:Nat→Nat→Prop} {K:Kx}
theorem Om (hI:Inv C K T) {t:TypeId} {a x:AV} {v:Value} (hv:aF K T a v) (h:sV C K.H t a = some x) :
  ∃ u,(do loadVar t (← asAddr v):Sem Value).run C.P K.w = .ok u K.w∧aF K T x u:=by
 obtain ⟨u,h1,h2⟩:=Io hI hv h
 refine ⟨u,?_,h2⟩
 have:∃ ad,v = .pointer (some ad):=by
  unfold sV at h
  split at h
  ·cases h
  ·split at h
   ·rename_i o i f g
    cases hl:live K.H o g with
    | none=>rw [hl] at h;cases h
    | some ob =>
     simp only [aF,aH,aX] at hv
     obtain ⟨h3,h4⟩:=bI.1 hl
     exact ⟨_,((hv.2.2 ob h3).2 h4).2⟩
   ·simp only [aF,aH] at hv
    obtain ⟨b,off,h3,_⟩:=hv
    exact ⟨_,h3⟩
   ·cases h
 obtain ⟨ad,rfl⟩:=this
 simp only [Instr.loadAt,Instr.sureAddr,Sem.run_bind,Sem.run_pure,Result.andThen_ok] at h1
 simp only [asAddr,Sem.run_bind,Sem.run_pure,Result.andThen_ok]
 exact h1
def GV (tmps:Array Value):ResultVar→Sem Value
 | .tmp t=>pure (tmps.getD t undef)
 | .cell a t=>do loadVar t (← asAddr (tmps.getD a undef))
theorem vg (hI:Inv C K T) {fr:Frame} {tmps:Array Value} (hf:oD K T fr tmps):∀ {rs:List ResultVar} {l:List AV},bf C fr K.H rs = some l →
  ∃ us,(rs.mapM (GV tmps)).run C.P K.w = .ok us K.w∧eG K T l us
 | [],l,h=>by
  simp only [bf,Option.some.injEq] at h
  subst h
  exact ⟨[],by simp [Sem.run_pure],trivial⟩
 | .tmp t :: r,l,h=>by
  simp only [bf] at h
  cases hr:bf C fr K.H r with
  | none=>rw [hr] at h;cases h
  | some l' =>
   rw [hr] at h
   simp only [Option.map_some,Option.some.injEq] at h
   subst h
   obtain ⟨us,h1,h2⟩:=vg hI hf hr
   exact ⟨tmps.getD t undef :: us,by simp only [List.mapM_cons,GV,Sem.run_bind,Sem.run_pure,Result.andThen_ok,h1],hf t,h2⟩
 | .cell a t :: r,l,h=>by
  simp only [bf] at h
  split at h
  ·rename_i x l' hx hr
   simp only [Option.some.injEq] at h
   subst h
   obtain ⟨us,h1,h2⟩:=vg hI hf hr
   obtain ⟨u,h3,h4⟩:=Om hI (hf a) hx
   refine ⟨u :: us,?_,h4,h2⟩
   simp only [List.mapM_cons,GV]
   rw [Sem.run_bind,h3]
   simp only [Result.andThen_ok,Sem.run_bind,h1,Sem.run_pure]
  ·cases h
theorem EZ:∀ {l:List AV} {us:List Value},gG l = true→eG K T l us→us.length = l.length∧∀ (j:Nat) (a:AV),l[j]? = some a→∃ u,us[j]? = some u∧aH K T a u
 | [],us,_,h=>by rw [h.nil];simp
 | a :: r,us,hn,h=>by
  obtain ⟨v,s,rfl,h1,h2⟩:=h.cons
  have ha:aH K T a v∧gG r = true:=by cases a <;> first | exact ⟨h1,hn⟩ | (simp [gG] at hn;done)
  obtain ⟨h3,h4⟩:=EZ ha.2 h2
  refine ⟨by simp [h3],fun j b hb=>?_⟩
  cases j with
  | zero =>
   simp only [List.getElem?_cons_zero,Option.some.injEq] at hb
   subst hb
   exact ⟨v,rfl,ha.1⟩
  | succ j=>exact h4 j b hb
theorem eG.len:∀ {l:List AV} {us:List Value},eG K T l us→us.length = l.length
 | [],us,h=>by simp [h.nil]
 | a :: r,us,h=>by
  obtain ⟨v,s,rfl,h1,h2⟩:=h.cons
  simp [h2.len]
theorem KU (hI:Inv C K T) {fr:Frame} {tmps:Array Value} (hf:oD K T fr tmps) {fn:Func} {l:List AV} (h:bf C fr K.H fn.results.toList = some l) :
  ∃ v,(results fn tmps).run C.P K.w = .ok v K.w∧aF K T (aW l) v:=by
 obtain ⟨us,h1,h2⟩:=vg hI hf h
 have hlen:=h2.len
 refine ⟨if h:us.toArray.size = 1 then us.toArray[0] else .tuple us.toArray,?_,?_⟩
 ·have:results fn tmps = (do let vs ← fn.results.mapM (GV tmps);pure (if h:vs.size = 1 then vs[0] else .tuple vs)):=rfl
  rw [this,Array.mapM_eq_mapM_toList]
  simp only [Sem.run_bind,map_eq_pure_bind,h1,Result.andThen_ok,Sem.run_pure]
 ·split
  ·rename_i hs
   simp only [List.size_toArray] at hs
   rw [hs] at hlen
   cases l with
   | nil=>simp at hlen
   | cons a r =>
    cases r with
    | nil =>
     obtain ⟨v,s,rfl,h3,h4⟩:=h2.cons
     exact h3
    | cons=>simp at hlen
  ·rename_i hs
   simp only [List.size_toArray] at hs
   have:aW l = if gG l then .tup l else .top:=by
    cases l with
    | nil=>rfl
    | cons a r =>
     cases r with
     | nil=>simp at hlen;exact absurd hlen hs
     | cons=>rfl
   rw [this]
   split
   ·rename_i hn
    obtain ⟨h3,h4⟩:=EZ hn h2
    simp only [aF]
    exact ⟨us.toArray,rfl,by simpa using h3,fun j a ha=>by obtain ⟨u,h5,h6⟩:=h4 j a ha;exact ⟨u,by simpa using h5,h6⟩⟩
   ·exact aF.top _ _ _
theorem zf:∀ {l:List AV} {us:List Value} {k:Nat},eG K T l us→∀ i,(k≤i∧i < k + us.length∧∃ u,us[i - k]? = some u∧aF K T (aI (numbered k l) i) u)∨aI (numbered k l) i = .top
 | [],us,k,_,i=>.inr rfl
 | a :: r,us,k,h,i=>by
  obtain ⟨v,s,rfl,h1,h2⟩:=h.cons
  simp only [numbered,aI]
  split
  ·rename_i hk
   subst hk
   left
   refine ⟨Nat.le_refl _,by simp,v,by simp,h1⟩
  ·rcases zf (k:=k + 1) h2 i with ⟨h3,h4,u,h5,h6⟩ | h3
   ·left
    simp only [List.length_cons]
    refine ⟨by omega,by omega,u,?_,h6⟩
    rw [show i - k = (i - (k + 1)) + 1 by omega]
    simpa using h5
   ·exact .inr h3
theorem KW (hC:EW C) {cf:Cf} (hcf:zF C cf) (hct:lV C cf) (n:Nat):zF C (kR C cf n):=by
 intro f args H x H' h K T vs hK hI ha
 subst hK
 unfold kR at h
 split at h
 ·cases h
 ·rename_i fn hF
  split at h
  ·cases h
  ·rename_i c hc
   refine calls_of_wp hF hc ?_
   have hN:Now C T K.H.length K (gU C f) (numbered 0 args) K.H { tmps:=vs ++ Array.replicate (fn.ntmps - vs.size) undef,defers:=[] } K.w:=by
    refine ⟨K.μ,hI,Evo.refl T K (Nat.le_refl _),fun i=>?_,?_,rfl⟩
    ·rcases zf (k:=0) ha i with ⟨_,h2,u,h3,h4⟩ | h1
     ·rw [Nat.sub_zero] at h3
      have:(vs ++ Array.replicate (fn.ntmps - vs.size) undef).getD i undef = u:=by
       have hlt:i < vs.size:=by simpa using h2
       rw [Array.getD_eq_getD_getElem?,Array.getElem?_append_left hlt,← Array.getElem?_toList,h3]
       rfl
      rw [this]
      exact h4
     ·rw [h1];exact aF.top _ _ _
    ·simp only [gU,hF,Option.map_some,Option.getD_some,Array.size_append,Array.size_replicate]
     omega
   have key:∀ (out:Out),exec C cf f K.H.length n c (numbered 0 args) K.H = some out→(out.ex = .normal∨out.ex = .ret)→(bf C out.fr out.H fn.results.toList).map (fun l=>(aW l,out.H)) = some (x,H') →
     c.wp C.P (bodyPost C.P fn (Gives C T K x H')) { tmps:=vs ++ Array.replicate (fn.ntmps - vs.size) undef,defers:=[] } K.w:=by
    intro out hout hex hres
    refine wp_mono (nS hcf hct hC.mix c (hC.draws f fn c hF hc) hout hN) fun e a' w' hl=>?_
    obtain ⟨rfl,μ,hI',hE,hf,_,hd⟩:=hl
    cases hr:bf C out.fr out.H fn.results.toList with
    | none=>rw [hr] at hres;cases hres
    | some l =>
     rw [hr] at hres
     simp only [Option.map_some,Option.some.injEq,Prod.mk.injEq] at hres
     obtain ⟨rfl,rfl⟩:=hres
     obtain ⟨v,h1,h2⟩:=KU hI' hf hr
     rcases hex with hex | hex <;> rw [hex] <;> exact ⟨hd,v,h1,μ,hI',hE,h2⟩
   split at h
   ·rename_i fr' H1 hx
    exact key _ hx (.inl rfl) h
   ·rename_i fr' H1 hx
    exact key _ hx (.inr rfl) h
   ·cases h
theorem Jz (hC:EW C):∀ n,zF C (kG C n)
 | 0=>by intro f args H x H' h;simp [kG] at h
 | n + 1=>by
  have:=NR (KW hC (Jz hC n) (IV n) n)
  exact this
end
end Go.AM
namespace Go.AM
open Go.ChangeShapes Go.WideShapes Go.ChangeAt Go.RowKit
def T0 (n:Nat) (t b:Nat):Prop:=n≤b∨t ≠ 0
def start (W:World):Kx:=⟨fun _=>default,[],W⟩
theorem wz (W:World) (b:Nat):¬ Own (start W) b:=by
 rintro ⟨o,ob,h,_⟩
 simp [start] at h
def GOk (C:Ctx) (W:World):Prop:=∀ g p,C.G g = some p→aj p ≠ 0∧g < W.heap.size∧RP W (fun b=>b < W.heap.size) p (fun j=>W.cell? ⟨g,j,none⟩)
theorem GOk.none {C:Ctx} (hG:∀ g,C.G g = none) (W:World):GOk C W:=fun g p h=>by rw [hG] at h;cases h
theorem Oo {C:Ctx} {W:World} (hG:GOk C W):Inv C (start W) (T0 W.heap.size) where
 obj:=fun o ob h=>by simp [start] at h
 inj:=fun o o' ob ob' h=>by simp [start] at h
 own:=fun b h=>absurd h (wz W b)
 new:=fun b h=>.inl h
 mono:=fun t b h=>by
  rcases h with h | h
  ·exact .inl h
  ·exact absurd rfl h
 glob:=fun g p h=>by
  obtain ⟨h1,h2,h3⟩:=hG g p h
  have hn:∀ b,b < W.heap.size→NT (start W) (T0 W.heap.size) dJ b:=fun b hb=>⟨.inr (by simp [dJ]),wz W b,hb⟩
  exact ⟨h1,hn g h2,jq (w':=(start W).w) (fun b hb=>⟨hn b hb,fun _ _ h=>h⟩) p _ _ (fun _ _ h=>h) h3⟩
def SQ (W:World) (e:Ending) (W':World):Prop :=
 e = .returned (.bool true)∧W'.os = W.os∧W'.output = W.output∧∀ b:Nat,b < W.heap.size→W'.heap[b]? = W.heap[b]?
theorem Oq {C:Ctx} (hC:EW C) {n f:Nat} {args:List AV} {vs:Array Value} {W:World} {H':Heap} (hG:GOk C W) (h:kG C n f args [] = some (.bool true,H'))
  (ha:eG (start W) (T0 W.heap.size) args vs.toList):Calls C.P f vs W (SQ W):=by
 have:=Jz hC n f args [] _ H' h (start W) (T0 W.heap.size) vs rfl (Oo hG) ha
 refine Calls.mono this fun e W' he=>?_
 cases e with
 | panicked=>exact he.elim
 | outgrown=>exact he.elim
 | returned v =>
  obtain ⟨μ,hI,hE,hv⟩:=he
  simp only [aF,aH,aX,RV] at hv
  subst hv
  refine ⟨rfl,hE.os,hE.output,fun b hb=>hE.exact b hb (wz W b) ?_⟩
  rintro (h | h)
  ·have:b < W.heap.size:=hb
   omega
  ·exact h rfl
section
variable {H:Type} {enc:TypeId × Value→H}
theorem Qp {P:Program} {f:Func} {s:ChangeSpec} {apart fresh handsOn again:Bool} {W W':World} {args:Array Value} {ds gs:List (DataW H)} {before:List MemPlace} {rt:TypeId}
  (hrow:laidOutB P = true) (hmap:mapsRowed P = true) (hfull:∀ t e,t < P.types.size→P.underlying t = some (.slice e)→0 < P.cellsOf e) (GX:∀ t ∈ f.params.toList,t < P.types.size)
  (hvars:s.vars = []) (hrt:f.resultTypes = #[rt]) (hb:P.underlying rt = some .bool)
  (hW:DataW.Whole enc P f.params.toList s.vars apart W args.toList ds gs before) (hfn:s.fn H ds = { results:=[.lit (.bool true)],args:=ds })
  (hos:W'.os = W.os) (hout:W'.output = W.output) (hsame:∀ b:Nat,b < W.heap.size→W'.heap[b]? = W.heap[b]?) :
  s.post enc P f apart fresh handsOn again W args (.bool true) W':=by
 have hlt:=hW.lt
 have hcell:∀ b off,b < W.heap.size→W'.cell? ⟨b,off,none⟩ = W.cell? ⟨b,off,none⟩:=fun b off h=>cell_of_heap (hsame b h) off
 have hfz:∀ a:Addr,a.block < W.heap.size→W'.frozen? a = W.frozen? a:=fun a h=>by unfold World.frozen?;rw [hsame _ h]
 have hat:∀ p ∈ before,W.sameAt W' p:=by
  intro p hp
  have:=hlt p hp
  cases p with
  | cell b off=>exact hcell b off this
  | map b=>exact hsame b this
 have K:=kids_rows hrow hmap
 obtain ⟨p,q,hA,hV,hps,hz,hn⟩:=id hW
 rw [hvars] at hV
 obtain ⟨rfl,rfl⟩:=trodVars_none hV
 simp only [List.append_nil] at hps
 subst hps
 -- the arguments again
 have again':∀ sp:Nat→Bool,(∀ x ∈ before,sp x.block = true)→DataW.TrodAll enc P W' 0 sp true f.params.toList args.toList ds before:=by
  intro sp hsp
  have carry:∀ {ts:List TypeId} {vs:List Value} {ds:List (DataW H)} {ps:List MemPlace},DataW.TrodAll enc P W 0 (fun _=>true) true ts vs ds ps→(∀ x ∈ ps,W.sameAt W' x)→DataW.TrodAll enc P W' 0 (fun _=>true) true ts vs ds ps:=by
   intro ts
   induction ts with
   | nil=>intro vs ds ps h _;cases vs <;> cases ds <;> first | exact h | exact h.elim
   | cons t ts ih =>
    intro vs ds ps h hs
    cases vs with
    | nil=>exact h.elim
    | cons v vs =>
     cases ds with
     | nil=>exact h.elim
     | cons d ds =>
      obtain ⟨a,b,⟨n,h1⟩,h2,e⟩:=h
      subst e
      exact ⟨a,b,⟨n,DataW.trod_carry n t _ _ h1 fun x hx=>hs x (List.mem_append_left _ hx)⟩,ih h2 fun x hx=>hs x (List.mem_append_right _ hx),rfl⟩
  exact DataW.TrodAll.respare K hfull GX (carry hA hat) hsp
 have hres:∀ (b:Nat) (sp:Nat→Bool) (hd:Bool),DataW.TrodAll enc P W' b sp hd f.resultTypes.toList ((Value.bool true).resultList f.resultTypes.size) [.lit (.bool true)] []:=by
  intro b sp hd
  rw [hrt]
  exact trodAll_mk1 (shut_bool hb true)
 have hfn':s.fn H (ds ++ []) = { results:=[.lit (.bool true)],args:=ds }:=by rw [List.append_nil];exact hfn
 have hold:∀ x ∈ before,(fun b=>decide (b < W.heap.size)) x.block = true:=fun x hx=>by simpa using hlt x hx
 have hkept:W.keptBut W' (fun x=>x ∈ before∧x ∈ before ++ []):=by
  refine ⟨hos,hout,fun i hi=>?_⟩
  rw [hsame i hi]
  generalize W.heap[i]? = x
  rcases x with _ | x
  ·rfl
  ·cases x <;> simp
 refine ⟨ds,[],before,[],before,[],hW,?_,?_,?_,?_,fun _=>?_⟩
 ·rw [hfn'];exact hres _ _ _
 ·rw [hfn'];exact again' _ hold
 ·rw [hfn',hvars];rfl
 ·refine World.keptBut_mono (fun x hx=>?_) hkept
  exact ⟨hx.1,.inr (.inl hx.1)⟩
 ·refine ⟨ok_one hrt rfl (okWide_bool_mk hb true),[.lit (.bool true)] ++ ds,[],([] ++ before) ++ [],⟨[] ++ before,[],?_,?_,rfl,?_,?_⟩,?_⟩
  ·exact trodAll_append (again' _ (fun _ _=>rfl)) (hres _ _ _)
  ·rw [hvars];rfl
  ·intro b off hp
   have hp':MemPlace.cell b off ∈ before:=by simpa using hp
   rw [hfz ⟨b,off,none⟩ (hlt (MemPlace.cell b off) hp')]
   exact hz b off hp'
  ·intro ha
   simpa using hn ha
  ·intro x hx _
   simpa using hx
theorem law_lifted {a:Assume} {D:Checked} {X:Ctx} (hX:X.P = D.prog) (hC:EW X) (hG:∀ g,X.G g = none) {os:Os} {f:FuncId} {fn:Func} {s:ChangeSpec} {conds:List PathCond} {apart fresh handsOn again:Bool} {rt:TypeId}
  (own:ownKnob D.prog.godebug = none) (started:os.Started) (noInit:D.prog.inits.idxOf? f = none) (hfn:D.prog.funcs[f]? = some fn)
  (witness:∃ (w:World) (tape:Tape) (i:Input),w.os = os∧(w.forCall tape i).Shaped D.prog∧i.vars = []∧Input.okWide D.prog (w.forCall tape i) .any w.heap.size f i ∧
   s.pre6 enc D.prog fn conds apart (w.forCall tape i).memory i.args∧a.holds D.prog (lone (Frame.enter D.prog f i.args .normal) [] (w.forCall tape i)))
  (hrow:laidOutB D.prog = true) (hmap:mapsRowed D.prog = true) (hfull:∀ t e,t < D.prog.types.size→D.prog.underlying t = some (.slice e)→0 < D.prog.cellsOf e) (GX:∀ t ∈ fn.params.toList,t < D.prog.types.size)
  (hvars:s.vars = []) (hrt:fn.resultTypes = #[rt]) (hb:D.prog.underlying rt = some .bool)
  (hspec:∀ ds:List (DataW H),ds.length = fn.params.toList.length→s.fn H ds = { results:=[.lit (.bool true)],args:=ds })
  (run:∀ (W:World) (base:Nat) (args:Array Value) (ds:List (DataW H)) (ps:List MemPlace),
   (∀ (j:Nat) t v,fn.params[j]? = some t→args[j]? = some v→Value.okWide D.prog W .any base t v) →
   DataW.TrodAll enc D.prog W 0 (fun _=>true) true fn.params.toList args.toList ds ps →
   ∃ n as H',kG X n f as [] = some (.bool true,H')∧eG (start W) (T0 W.heap.size) as args.toList) :
  ReturnsInHanded a D os f .any (s.pre6 enc D.prog fn conds apart) (s.post enc D.prog fn apart fresh handsOn again):=by
 refine returnsInHanded_of_change own started noInit hfn witness ?_
 intro W base args ds gs before hval hW _ _
 obtain ⟨p,q,hA,hV,_,_,_⟩:=id hW
 obtain ⟨n,as,H',h1,h2⟩:=run W base args ds p hval hA
 have zG:=Oq hC (GOk.none hG W) h1 h2
 rw [hX] at zG
 refine Calls.mono zG fun e W' he=>?_
 obtain ⟨he,hos,hout,hsame⟩:=he
 exact ⟨_,he,Qp hrow hmap hfull GX hvars hrt hb hW (hspec ds (trodAll_length hA).2) hos hout hsame⟩
end
def Qq (C:Ctx):Bool :=
 (List.range C.P.funcs.size).all fun f=>match C.P.funcs[f]? with
  | some fn=>match fn.body with
   | some c=>jr C f c
   | none=>true
  | none=>true
theorem P5 {C:Ctx} (mix:C.P.follows .mixedOrders = true) (h:Qq C = true):EW C where
 mix:=mix
 draws:=by
  intro f fn c hf hc
  have hlt:f < C.P.funcs.size:=(Array.getElem?_eq_some_iff.1 hf).1
  have:=List.all_eq_true.1 h f (List.mem_range.2 hlt)
  rw [hf] at this
  simp only [hc] at this
  exact this
def litVal:Lit→Value
 | .bool b=>.bool b
 | .int k n=>.int k n
 | .string b=>.string ⟨⟨b⟩⟩
 | _=>undef
mutual
def cellsD:DataW Unit→List Value
 | .lit l=>[litVal l]
 | .agg ps=>MQ ps
 | _=>[undef]
def MQ:List (DataW Unit)→List Value
 | []=>[]
 | d :: r=>cellsD d ++ MQ r
end
end Go.AM
namespace Go.AM
open Go.Lib
end Go.AM
namespace Go.AM
section
variable {C:Ctx}
def Ev1 (C:Ctx) (f:Nat) (args:List AV) (H:Heap) (r:AV × Heap):Prop:=∃ n0,∀ n,n0≤n→kG C n f args H = some r
def Below (C:Ctx) (T:Cf):Prop:=∀ f args H r,T f args H = some r→Ev1 C f args H r
theorem SS {T:Cf} (hT:Below C T) {fr:Frame} {H:Heap} {o:Oper} {r:AV × Heap} (h:step C T fr H o = some r):∃ n0,∀ n,n0≤n→step C (kG C n) fr H o = some r:=by
 obtain ⟨dst,op,type,pos,after,guard⟩:=o
 cases op <;> try exact ⟨0,fun _ _=>h⟩
 case makeFunc fn first caps=>cases fn <;> exact ⟨0,fun _ _=>h⟩
 case call c =>
  simp only [step,qX] at h ⊢
  cases hc:c.callee with
  | builtin b=>rw [hc] at h;exact ⟨0,fun _ _=>h⟩
  | value x =>
   rw [hc] at h
   simp only at h ⊢
   split at h
   ·rename_i f caps he
    split at h
    ·obtain ⟨n0,hn⟩:=hT _ _ _ _ h
     refine ⟨n0,fun n hl=>?_⟩
     rename_i hb
     rw [if_pos hb]
     exact hn n hl
    ·cases h
   ·cases h
  | invoke r n=>rw [hc] at h;cases h
theorem MV {T:Cf} (hT:Below C T) {nt:Nat} {ops:Array Oper} {o:Oper} {fr:Frame} {H:Heap} {r:AV × Heap} (h:out1 C T nt ops o fr H = some r):∃ n0,∀ n,n0≤n→out1 C (kG C n) nt ops o fr H = some r:=by
 unfold out1 at h ⊢
 split at h
 ·rename_i hd
  simp only [hd,if_true]
  split at h
  ·exact SS hT h
  ·exact ⟨0,fun _ _=>h⟩
  ·cases h
 ·cases h
theorem E8 {T:Cf} (hT:Below C T) {nt:Nat} {ops:Array Oper}:∀ {l:List Oper} {fr:Frame} {H:Heap} {r:Frame × Heap},kX C T nt ops l fr H = some r→∃ n0,∀ n,n0≤n→kX C (kG C n) nt ops l fr H = some r
 | [],fr,H,r,h=>⟨0,fun _ _=>h⟩
 | o :: l,fr,H,r,h=>by
  rw [uP] at h
  split at h
  ·rename_i v H1 hv
   obtain ⟨n0,h0⟩:=MV hT hv
   obtain ⟨n1,h1⟩:=E8 hT h
   refine ⟨max n0 n1,fun n hn=>?_⟩
   rw [uP,h0 n (by omega)]
   exact h1 n (by omega)
  ·cases h
theorem MW {T:Cf} (hT:Below C T) {nt:Nat} {ops:Array Oper}:∀ {l:List Oper} {fr:Frame} {H:Heap} {r:Frame × Heap × List Mark},lI C T nt ops l fr H = some r→∃ n0,∀ n,n0≤n→lI C (kG C n) nt ops l fr H = some r
 | [],fr,H,r,h=>⟨0,fun _ _=>h⟩
 | o :: l,fr,H,r,h=>by
  simp only [lI] at h
  split at h
  ·rename_i v H1 hv
   split at h
   ·rename_i fr' H2 ms hr
    obtain ⟨n0,h0⟩:=MV hT hv
    obtain ⟨n1,h1⟩:=MW hT hr
    refine ⟨max n0 n1,fun n hn=>?_⟩
    simp only [lI]
    rw [h0 n (by omega)]
    simp only
    rw [h1 n (by omega)]
    exact h
   ·cases h
  ·cases h
theorem nT {T:Cf} (hT:Below C T) {f m k:Nat}:(c:Code)→∀ {fr:Frame} {H:Heap} {out:Out},exec C T f m k c fr H = some out→∃ n0,∀ n,n0≤n→∀ k',k≤k'→exec C (kG C n) f m k' c fr H = some out
 | .skip,fr,H,out,h=>⟨0,fun _ _ _ _=>h⟩
 | .region id ops draw,fr,H,out,h=>by
  simp only [exec] at h ⊢
  split at h
  ·rename_i hd
   simp only [hd,if_true]
   split at h
   ·rename_i fr' H' ms hr
    obtain ⟨n0,h0⟩:=MW hT hr
    refine ⟨n0,fun n hn k' _=>?_⟩
    rw [h0 n hn]
    exact h
   ·cases h
  ·rename_i hd
   simp only [hd,Bool.false_eq_true,if_false]
   split at h
   ·cases h
   ·rename_i hd2
    simp only [hd2,Bool.false_eq_true,if_false]
    split at h
    ·rename_i fr' H' hr
     obtain ⟨n0,h0⟩:=E8 hT hr
     refine ⟨n0,fun n hn k' _=>?_⟩
     rw [h0 n hn]
     exact h
    ·cases h
 | .seq a b,fr,H,out,h=>by
  simp only [exec] at h ⊢
  split at h
  ·rename_i fr' H' ha
   obtain ⟨n0,h0⟩:=nT hT a ha
   obtain ⟨n1,h1⟩:=nT hT b h
   refine ⟨max n0 n1,fun n hn k' hk=>?_⟩
   rw [h0 n (by omega) k' hk]
   exact h1 n (by omega) k' hk
  ·rename_i hne
   obtain ⟨n0,h0⟩:=nT hT a h
   refine ⟨n0,fun n hn k' hk=>?_⟩
   rw [h0 n hn k' hk]
   obtain ⟨ex,fr',H'⟩:=out
   cases ex with
   | normal=>exact absurd h (hne _ _)
   | exit id=>rfl
   | ret=>rfl
 | .cond c a b,fr,H,out,h=>by
  simp only [exec] at h ⊢
  split at h
  ·rename_i d hd
   cases d with
   | true=>exact nT hT a h
   | false=>exact nT hT b h
  ·cases h
 | .block id c,fr,H,out,h=>by
  simp only [exec] at h ⊢
  split at h
  ·rename_i id' fr' H' hc
   obtain ⟨n0,h0⟩:=nT hT c hc
   refine ⟨n0,fun n hn k' hk=>?_⟩
   rw [h0 n hn k' hk]
   exact h
  ·rename_i hne
   obtain ⟨n0,h0⟩:=nT hT c h
   refine ⟨n0,fun n hn k' hk=>?_⟩
   rw [h0 n hn k' hk]
   obtain ⟨ex,fr',H'⟩:=out
   cases ex with
   | normal=>rfl
   | exit id=>exact absurd h (hne _ _ _)
   | ret=>rfl
 | .loop c,fr,H,out,h=>by
  simp only [exec] at h ⊢
  have key:∀ j,∀ {fr:Frame} {H:Heap},nX (exec C T f m k c) j fr H = some out→∃ n0,∀ n,n0≤n→∀ k',k≤k'→∀ j',j≤j'→nX (exec C (kG C n) f m k' c) j' fr H = some out:=by
   intro j
   induction j with
   | zero=>intro fr H h;simp [nX] at h
   | succ j ih =>
    intro fr H h
    simp only [nX] at h
    split at h
    ·rename_i fr' H' hc
     obtain ⟨n0,h0⟩:=nT hT c hc
     obtain ⟨n1,h1⟩:=ih h
     refine ⟨max n0 n1,fun n hn k' hk j' hj=>?_⟩
     obtain ⟨j',rfl⟩:∃ i,j' = i + 1:=⟨j' - 1,by omega⟩
     simp only [nX]
     rw [h0 n (by omega) k' hk]
     exact h1 n (by omega) k' hk j' (by omega)
    ·rename_i hne
     obtain ⟨n0,h0⟩:=nT hT c h
     refine ⟨n0,fun n hn k' hk j' hj=>?_⟩
     obtain ⟨j',rfl⟩:∃ i,j' = i + 1:=⟨j' - 1,by omega⟩
     simp only [nX]
     rw [h0 n hn k' hk]
     obtain ⟨ex,fr',H'⟩:=out
     cases ex with
     | normal=>exact absurd h (hne _ _)
     | exit id=>rfl
     | ret=>rfl
  obtain ⟨n0,h0⟩:=key k h
  exact ⟨n0,fun n hn k' hk=>h0 n hn k' hk k' hk⟩
 | .exit id,fr,H,out,h=>⟨0,fun _ _ _ _=>h⟩
 | .ret,fr,H,out,h=>⟨0,fun _ _ _ _=>h⟩
 | .scope ..,fr,H,out,h=>by simp [exec] at h
 | .label ..,fr,H,out,h=>by simp [exec] at h
 | .goto ..,fr,H,out,h=>by simp [exec] at h
 | .refuse ..,fr,H,out,h=>by simp [exec] at h
 | .rangeFunc ..,fr,H,out,h=>by simp [exec] at h
theorem KX {T:Cf} (hT:Below C T) {k f:Nat} {args:List AV} {H:Heap} {r:AV × Heap} (h:kR C T k f args H = some r):∃ n0,∀ n,n0≤n→kR C (kG C n) n f args H = some r:=by
 unfold kR at h ⊢
 cases hF:C.P.funcs[f]? with
 | none=>rw [hF] at h;cases h
 | some fn =>
  rw [hF] at h
  simp only at h ⊢
  cases hb:fn.body with
  | none=>rw [hb] at h;cases h
  | some c =>
   rw [hb] at h
   simp only at h ⊢
   cases he:exec C T f H.length k c (numbered 0 args) H with
   | none=>rw [he] at h;cases h
   | some out =>
    obtain ⟨n0,h0⟩:=nT hT c he
    refine ⟨max n0 k,fun n hn=>?_⟩
    rw [h0 n (by omega) n (by omega)]
    rw [he] at h
    exact h
theorem Du {T:Cf} (hT:Below C T) {k f:Nat} {args:List AV} {H:Heap} {r:AV × Heap} (h:jC C (kR C T k) f args H = some r):Ev1 C f args H r:=by
 unfold jC at h
 split at h
 ·cases h
 ·rename_i as aP hl
  simp only at h
  split at h
  ·rename_i hc
   split at h
   ·cases h
   ·rename_i v H1 hb
    obtain ⟨n0,h0⟩:=KX hT hb
    refine ⟨n0 + 1,fun n hn=>?_⟩
    obtain ⟨n,rfl⟩:∃ i,n = i + 1:=⟨n - 1,by omega⟩
    show jC C (kR C (kG C n) n) f args H = some r
    unfold jC
    rw [hl]
    simp only
    rw [if_pos hc,h0 n (by omega)]
    exact h
  ·cases h
theorem Below.none:Below C (fun _ _ _=>none):=by intro f args H r h;cases h
def MX (C:Ctx) (T:Cf):Nat→Cf
 | 0,f,args,H=>T f args H
 | n + 1,f,args,H=>match T f args H with
  | some r=>some r
  | none=>jC C (kR C (MX C T n) n) f args H
theorem AB {T:Cf} (hT:Below C T):∀ n,Below C (MX C T n)
 | 0=>hT
 | n + 1=>by
  intro f args H r h
  simp only [MX] at h
  split at h
  ·rename_i r' hr
   rw [← Option.some.inj h]
   exact hT _ _ _ _ hr
  ·exact Du (AB hT n) h
theorem xP {b b':Frame→Heap→Option Out} (hb:∀ fr H out,b fr H = some out→b' fr H = some out):∀ {j j':Nat} {fr:Frame} {H:Heap} {out:Out},j≤j'→nX b j fr H = some out→nX b' j' fr H = some out
 | 0,j',fr,H,out,_,h=>by simp [nX] at h
 | j + 1,j',fr,H,out,hj,h=>by
  obtain ⟨j',rfl⟩:∃ i,j' = i + 1:=⟨j' - 1,by omega⟩
  simp only [nX] at h ⊢
  split at h
  ·rename_i fr' H' hc
   rw [hb _ _ _ hc]
   exact xP hb (by omega) h
  ·rename_i hne
   rw [hb _ _ _ h]
   obtain ⟨ex,fr',H'⟩:=out
   cases ex with
   | normal=>exact absurd h (hne _ _)
   | exit id=>rfl
   | ret=>rfl
theorem iE {T:Cf} {f m k k':Nat} (hk:k≤k'):(c:Code)→∀ (fr:Frame) (H:Heap) (out:Out),exec C T f m k c fr H = some out→exec C T f m k' c fr H = some out
 | .skip,fr,H,out,h=>h
 | .region id ops draw,fr,H,out,h=>h
 | .seq a b,fr,H,out,h=>by
  simp only [exec] at h ⊢
  split at h
  ·rename_i fr' H' ha
   rw [iE hk a _ _ _ ha]
   exact iE hk b _ _ _ h
  ·rename_i hne
   rw [iE hk a _ _ _ h]
   obtain ⟨ex,fr',H'⟩:=out
   cases ex with
   | normal=>exact absurd h (hne _ _)
   | exit id=>rfl
   | ret=>rfl
 | .cond c a b,fr,H,out,h=>by
  simp only [exec] at h ⊢
  split at h
  ·rename_i d hd
   cases d with
   | true=>exact iE hk a _ _ _ h
   | false=>exact iE hk b _ _ _ h
  ·cases h
 | .block id c,fr,H,out,h=>by
  simp only [exec] at h ⊢
  split at h
  ·rename_i id' fr' H' hc
   rw [iE hk c _ _ _ hc]
   exact h
  ·rename_i hne
   rw [iE hk c _ _ _ h]
   obtain ⟨ex,fr',H'⟩:=out
   cases ex with
   | normal=>rfl
   | exit id=>exact absurd h (hne _ _ _)
   | ret=>rfl
 | .loop c,fr,H,out,h=>by
  simp only [exec] at h ⊢
  exact xP (iE hk c) hk h
 | .exit id,fr,H,out,h=>h
 | .ret,fr,H,out,h=>h
 | .scope ..,fr,H,out,h=>by simp [exec] at h
 | .label ..,fr,H,out,h=>by simp [exec] at h
 | .goto ..,fr,H,out,h=>by simp [exec] at h
 | .refuse ..,fr,H,out,h=>by simp [exec] at h
 | .rangeFunc ..,fr,H,out,h=>by simp [exec] at h
def Run (C:Ctx) (T:Cf) (f m:Nat) (c:Code) (fr:Frame) (H:Heap) (out:Out):Prop:=∃ k,exec C T f m k c fr H = some out
variable {T:Cf} {f m:Nat} {fr fr':Frame} {H H':Heap} {out:Out}
theorem Run.seq {a b:Code} (h:Run C T f m a fr H ⟨.normal,fr',H'⟩) (h':Run C T f m b fr' H' out):Run C T f m (.seq a b) fr H out:=by
 obtain ⟨k0,h0⟩:=h
 obtain ⟨k1,h1⟩:=h'
 refine ⟨max k0 k1,?_⟩
 simp only [exec]
 rw [iE (Nat.le_max_left k0 k1) a _ _ _ h0]
 exact iE (Nat.le_max_right k0 k1) b _ _ _ h1
theorem Run.bH {a b:Code} (h:Run C T f m a fr H out) (hne:out.ex ≠ .normal):Run C T f m (.seq a b) fr H out:=by
 obtain ⟨k0,h0⟩:=h
 refine ⟨k0,?_⟩
 simp only [exec]
 rw [h0]
 obtain ⟨ex,fr',H'⟩:=out
 cases ex with
 | normal=>exact absurd rfl hne
 | exit id=>rfl
 | ret=>rfl
theorem Run.cond {c:Operand} {a b:Code} {d:Bool} (hc:aK C fr c = .bool d) (h:Run C T f m (if d then a else b) fr H out):Run C T f m (.cond c a b) fr H out:=by
 obtain ⟨k0,h0⟩:=h
 refine ⟨k0,?_⟩
 simp only [exec]
 rw [hc]
 cases d <;> exact h0
theorem Run.fV {id:Nat} {c:Code} (h:Run C T f m c fr H ⟨.exit id,fr',H'⟩):Run C T f m (.block id c) fr H ⟨.normal,fr',H'⟩:=by
 obtain ⟨k0,h0⟩:=h
 refine ⟨k0,?_⟩
 simp only [exec]
 rw [h0]
 simp
theorem Run.block {id:Nat} {c:Code} (h:Run C T f m c fr H out) (hne:out.ex ≠ .exit id):Run C T f m (.block id c) fr H out:=by
 obtain ⟨k0,h0⟩:=h
 refine ⟨k0,?_⟩
 simp only [exec]
 rw [h0]
 obtain ⟨ex,fr',H'⟩:=out
 cases ex with
 | normal=>rfl
 | exit id' =>
  have:id' ≠ id:=fun e=>hne (by rw [e])
  simp [this]
 | ret=>rfl
theorem Run.zV {c:Code} (h:Run C T f m c fr H ⟨.normal,fr',H'⟩) (h':Run C T f m (.loop c) fr' H' out):Run C T f m (.loop c) fr H out:=by
 obtain ⟨k0,h0⟩:=h
 obtain ⟨k1,h1⟩:=h'
 refine ⟨max k0 k1 + 1,?_⟩
 simp only [exec] at h1 ⊢
 rw [nX,iE (show k0≤max k0 k1 + 1 by omega) c _ _ _ h0]
 exact xP (iE (show k1≤max k0 k1 + 1 by omega) c) (by omega) h1
theorem Run.Dv {c:Code} (h:Run C T f m c fr H out) (hne:out.ex ≠ .normal):Run C T f m (.loop c) fr H out:=by
 obtain ⟨k0,h0⟩:=h
 refine ⟨k0 + 1,?_⟩
 simp only [exec]
 rw [nX,iE (show k0≤k0 + 1 by omega) c _ _ _ h0]
 obtain ⟨ex,fr',H'⟩:=out
 cases ex with
 | normal=>exact absurd rfl hne
 | exit id=>rfl
 | ret=>rfl
theorem Run.lq {c:Code} {σ:Type} (I:σ→Prop) (fr:σ→Frame) (H:σ→Heap) (out:σ→Out) (μ:σ→Nat)
  (step:∀ s,I s→(∃ s',I s'∧Run C T f m c (fr s) (H s) ⟨.normal,fr s',H s'⟩∧out s' = out s∧μ s' < μ s)∨(Run C T f m c (fr s) (H s) (out s)∧(out s).ex ≠ .normal)) (s:σ) (hs:I s) :
  Run C T f m (.loop c) (fr s) (H s) (out s):=by
 generalize hn:μ s = n
 induction n using Nat.strongRecOn generalizing s with
 | _ n ih =>
  rcases step s hs with ⟨s',h0,h1,h2,h3⟩ | ⟨h1,h2⟩
  ·rw [← h2]
   exact Run.zV h1 (ih (μ s') (by omega) s' h0 rfl)
  ·exact Run.Dv h1 h2
theorem Ev1.of {T:Cf} (hT:Below C T) {f:Nat} {args:List AV} {H:Heap} {r:AV × Heap} {fn:Func} {c:Code} {as:List AV} {aP:List eU} {out:Out} {l:List AV}
  (hF:C.P.funcs[f]? = some fn) (hb:fn.body = some c) (hl:aO C f H 0 args = some (as,aP))
  (hc:((aP.all fun x=>disjoint x.objs (reach H aJ (aT as) [])) && decide (as.length + 1 < dJ)) = true)
  (he:Run C T f ((reach H aJ (aT as) []).length) c (numbered 0 (coerce C (dN (dF H (reach H aJ (aT as) [])) (fun t=>t) as) (aV C f)))
   ((reach H aJ (aT as) []).map fun o=>(bD H o).map (bn (dF H (reach H aJ (aT as) [])) (fun _=>as.length + 1) 0)) out)
  (hex:out.ex = .normal∨out.ex = .ret) (hr:bf C out.fr out.H fn.results.toList = some l)
  (hw:wrap H (reach H aJ (aT as) []) (aP ++ [⟨[],aG ((reach H aJ (aT as) []).map (bD H))⟩]) (aW l) out.H = some r):Ev1 C f args H r:=by
 obtain ⟨k,hk⟩:=he
 refine Du hT (k:=k) ?_
 unfold jC
 rw [hl]
 simp only
 rw [if_pos hc]
 have:kR C T k f (coerce C (dN (dF H (reach H aJ (aT as) [])) (fun t=>t) as) (aV C f))
   ((reach H aJ (aT as) []).map fun o=>(bD H o).map (bn (dF H (reach H aJ (aT as) [])) (fun _=>as.length + 1) 0)) = some (aW l,out.H):=by
  unfold kR
  rw [hF]
  simp only
  rw [hb]
  simp only [List.length_map]
  rw [hk]
  obtain ⟨ex,fr',H'⟩:=out
  simp only at hex hr ⊢
  rcases hex with rfl | rfl <;> simp [hr]
 rw [this]
 exact hw
theorem Dw {H:Heap} {t:Nat} {a:AV} (hi:ids a = []):eY H t a = eY [] t a∧∀ r,eY H t a = some r→r.2.objs = []∧ids r.1 = []:=by
 cases a
 case sl o off len g=>simp [ids] at hi
 case ro c p t' =>
  refine ⟨rfl,fun r h=>?_⟩
  simp only [eY,Option.some.injEq] at h
  subst h
  exact ⟨rfl,rfl⟩
 case iQ p i f t' =>
  refine ⟨rfl,fun r h=>?_⟩
  simp only [eY,Option.some.injEq] at h
  subst h
  exact ⟨rfl,rfl⟩
 all_goals
  refine ⟨rfl,fun r h=>?_⟩
  simp only [eY] at h
  split at h
  ·simp only [Option.some.injEq] at h
   subst h
   exact ⟨rfl,hi⟩
  ·cases h
theorem xQ {H:Heap} {t:Nat}:∀ {l:List AV},aT l = []→iP H t l = iP [] t l∧∀ r,iP H t l = some r→r.2.objs = []∧aT r.1 = []
 | [],_=>⟨rfl,fun r h=>by simp only [iP,Option.some.injEq] at h;subst h;exact ⟨rfl,rfl⟩⟩
 | a :: l,hi=>by
  simp only [aT,List.append_eq_nil_iff] at hi
  obtain ⟨h1,h2⟩:=Dw (H:=H) (t:=t) hi.1
  obtain ⟨h3,h4⟩:=xQ (H:=H) (t:=t) hi.2
  refine ⟨by simp only [iP,h1,h3],fun r h=>?_⟩
  simp only [iP] at h
  split at h
  ·rename_i a' x r' y e1 e2
   simp only [Option.some.injEq] at h
   subst h
   obtain ⟨q1,q2⟩:=h2 _ e1
   obtain ⟨q3,q4⟩:=h4 _ e2
   exact ⟨by simp only at q1 q3 ⊢;rw [q1,q3];rfl,by simp only [aT] at q2 q4 ⊢;rw [q2,q4];rfl⟩
  ·cases h
theorem KY {H:Heap} {t:Nat} {a:AV} (hi:ids a = []):fU H t a = fU [] t a∧∀ r,fU H t a = some r→r.2.objs = []∧ids r.1 = []:=by
 unfold fU
 split
 ·rename_i l
  obtain ⟨h1,h2⟩:=xQ (H:=H) (t:=t) (l:=l) (by simpa [ids] using hi)
  refine ⟨by rw [h1],fun r h=>?_⟩
  cases hl:iP H t l with
  | none=>rw [hl] at h;cases h
  | some z =>
   rw [hl] at h
   simp only [Option.map_some,Option.some.injEq] at h
   subst h
   obtain ⟨q1,q2⟩:=h2 _ hl
   exact ⟨q1,by simpa [ids] using q2⟩
 ·rename_i f l
  obtain ⟨h1,h2⟩:=xQ (H:=H) (t:=t) (l:=l) (by simpa [ids] using hi)
  refine ⟨by rw [h1],fun r h=>?_⟩
  cases hl:iP H t l with
  | none=>rw [hl] at h;cases h
  | some z =>
   rw [hl] at h
   simp only [Option.map_some,Option.some.injEq] at h
   subst h
   obtain ⟨q1,q2⟩:=h2 _ hl
   exact ⟨q1,by simpa [ids] using q2⟩
 ·exact Dw hi
theorem wP {f:Nat} {H:Heap}:∀ {args:List AV} {i:Nat},aT args = []→aO C f H i args = aO C f [] i args∧∀ r,aO C f H i args = some r→(∀ x ∈ r.2,x.objs = [])∧aT r.1 = []
 | [],i,_=>⟨rfl,fun r h=>by simp only [aO,Option.some.injEq] at h;subst h;simp [aT]⟩
 | a :: l,i,hi=>by
  simp only [aT,List.append_eq_nil_iff] at hi
  obtain ⟨h1,h2⟩:=KY (H:=H) (t:=i + 1) hi.1
  obtain ⟨h3,h4⟩:=wP (f:=f) (H:=H) (i:=i + 1) hi.2
  have e:∀ H:Heap,aO C f H i (a :: l) = match fU H (i + 1) a,aO C f H (i + 1) l with
    | some (a',x),some (r',y)=>some (a' :: r',x :: y)
    | _,_=>none:=by
   intro H
   clear h1 h2 h3 h4
   cases a
   case sl o off len g=>simp [ids] at hi
   all_goals
    simp only [aO]
    generalize fU H (i + 1) _ = x
    generalize aO C f H (i + 1) l = y
    cases C.rw f i <;> rcases x with _ | ⟨_,_⟩ <;> rcases y with _ | ⟨_,_⟩ <;> rfl
  rw [e,e,h1,h3]
  refine ⟨rfl,fun r h=>?_⟩
  rw [← h1,← h3] at h
  split at h
  ·rename_i a' x r' y e1 e2
   simp only [Option.some.injEq] at h
   subst h
   obtain ⟨q1,q2⟩:=h2 _ e1
   obtain ⟨q3,q4⟩:=h4 _ e2
   refine ⟨fun z hz=>?_,by simp only [aT] at q2 q4 ⊢;rw [q2,q4];rfl⟩
   rcases List.mem_cons.1 hz with rfl | hz
   ·exact q1
   ·exact q3 z hz
  ·cases h
theorem zW (H:Heap) (acc:List Nat):∀ n,reach H n [] acc = acc
 | 0=>rfl
 | _ + 1=>rfl
def uz (n:Nat) (o g:Nat):Option (Nat × Nat):=some (o + n,g)
def dX (n:Nat) (v:AV):AV:=ren (uz n) (fun t=>t) v
def kU (n:Nat) (N:Heap):Heap:=N.map fun x=>x.map fun ob=>bn (uz n) (fun t=>t) ob.g ob
mutual
theorem oK {ρ ρ':Nat→Nat→Option (Nat × Nat)} {τ:Nat→Nat} {n:Nat} (h:∀ o g,ρ' o g = (ρ o g).map fun x=>(x.1 + n,x.2)):(v:AV)→ren ρ' τ v = dX n (ren ρ τ v)
 | .ptr o i f g=>by
  simp only [ren,h]
  rcases ρ o g with _ | ⟨a,b⟩ <;> simp [dX,ren,uz]
 | .sl o off len g=>by
  simp only [ren,h]
  rcases ρ o g with _ | ⟨a,b⟩ <;> simp [dX,ren,uz]
 | .map o g=>by
  simp only [ren,h]
  rcases ρ o g with _ | ⟨a,b⟩ <;> simp [dX,ren,uz]
 | .ro c p t=>by simp [ren,dX]
 | .iQ p i f t=>by simp [ren,dX]
 | .agg p=>by simp only [ren,dX,oK h p]
 | .tup l=>by simp only [ren,dX,nG h l]
 | .fn f l=>by simp only [ren,dX,nG h l]
 | .pc l=>by simp only [ren,dX,nG h l]
 | .pr e l=>by simp only [ren,dX,nG h l]
 | .pm l=>by simp only [ren,dX,nG h l]
 | .top=>by simp [ren,dX]
 | .bool _=>by simp [ren,dX]
 | .int _ _=>by simp [ren,dX]
 | .str _=>by simp [ren,dX]
 | .gZ=>by simp [ren,dX]
 | .jv=>by simp [ren,dX]
 | .ig=>by simp [ren,dX]
 | .pn=>by simp [ren,dX]
 | .pb _=>by simp [ren,dX]
 | .pi _ _=>by simp [ren,dX]
theorem nG {ρ ρ':Nat→Nat→Option (Nat × Nat)} {τ:Nat→Nat} {n:Nat} (h:∀ o g,ρ' o g = (ρ o g).map fun x=>(x.1 + n,x.2)):(l:List AV)→dN ρ' τ l = dN (uz n) (fun t=>t) (dN ρ τ l)
 | []=>rfl
 | a :: r=>by
  have h1:=oK (τ:=τ) h a
  simp only [dX] at h1
  simp only [dN,h1,nG h r]
end
theorem vw:∀ (l:List Nat) (o i n:Nat),idxOf l o (i + n) = (idxOf l o i).map (· + n)
 | [],_,_,_=>rfl
 | a :: r,o,i,n=>by
  simp only [idxOf]
  split
  ·rfl
  ·rw [show i + n + 1 = (i + 1) + n by omega,vw r o (i + 1) n]
theorem Ev1.frame {f:Nat} {args:List AV} {v:AV} {N:Heap} (h:Ev1 C f args [] (v,N)) (hi:aT args = []) (H:Heap):Ev1 C f args H (dX H.length v,H ++ kU H.length N):=by
 obtain ⟨n0,h0⟩:=h
 refine ⟨n0 + 1,fun n hn=>?_⟩
 obtain ⟨n,rfl⟩:∃ i,n = i + 1:=⟨n - 1,by omega⟩
 have h1:=h0 (n + 1) (by omega)
 simp only [kG,jC] at h1 ⊢
 obtain ⟨e1,e2⟩:=wP (C:=C) (f:=f) (H:=H) (i:=0) hi
 rw [e1]
 split at h1
 ·cases h1
 ·rename_i as aP hl
  obtain ⟨e3,e4⟩:=e2 _ (e1.trans hl)
  simp only at e3 e4 h1 ⊢
  rw [e4] at h1 ⊢
  simp only [zW,List.map_nil,List.length_nil] at h1 ⊢
  have Ot:∀ (H H':Heap) (l:List AV),dN (dF H []) (fun t=>t) l = dN (dF H' []) (fun t=>t) l:=by
   intro H H' l
   have:dF H [] = dF H' []:=by
    funext o g
    unfold dF
    split <;> split <;> simp [idxOf]
   rw [this]
  rw [Ot H []]
  split at h1
  ·rename_i hc
   rw [if_pos hc]
   split at h1
   ·cases h1
   ·rename_i u H1 hb
    unfold wrap at h1 ⊢
    simp only [List.length_nil,List.range_zero,List.nil_append,List.map_nil,aG,List.append_nil] at h1 ⊢
    split at h1
    ·rename_i hu
     rw [if_pos hu]
     generalize (List.filter (fun o=>decide (0≤o)) (reach H1 aJ (ids u) [])) = new at h1 ⊢
     have Ed:∀ o g,dh H [] new H1 o g = (dh [] [] new H1 o g).map fun x=>(x.1 + H.length,x.2):=by
      intro o g
      unfold dh
      split
      ·have:=vw new o 0 H.length
       rw [Nat.zero_add] at this
       simp [this,Option.map_map,Function.comp_def]
      ·rfl
     have Pn:∀ t,dO (aP ++ [⟨[],[]⟩]) t = []:=by
      intro t
      unfold dO
      split
      ·rfl
      ·split
       ·rename_i x hx
        rcases List.mem_append.1 (List.mem_of_getElem? hx) with hx | hx
        ·exact e3 x hx
        ·simp only [List.mem_singleton] at hx
         rw [hx]
       ·rfl
     have hfl:∀ l:List Nat,l.flatMap (dO (aP ++ [⟨[],[]⟩])) = []:=fun l=>by simp [Pn]
     simp only [hfl,List.filter_nil] at h1 ⊢
     simp only [List.filter_nil,strike,dH,List.nil_append,Option.some.injEq,Prod.mk.injEq] at h1 ⊢
     obtain ⟨h2,h3⟩:=h1
     refine ⟨by rw [← h2];exact oK Ed u,?_⟩
     rw [← h3]
     congr 1
     simp only [kU,List.map_map]
     refine List.map_congr_left fun o _=>?_
     simp only [Function.comp]
     cases bD H1 o with
     | none=>rfl
     | some ob =>
      simp only [Option.map_some,bn,Option.some.injEq]
      have:=oK (τ:=dM (aP ++ [⟨[],[]⟩])) Ed ob.p
      simp only [dX] at this
      rw [this]
    ·cases h1
  ·cases h1
end
end Go.AM
namespace Go.AM
structure Row1 where
 f:Nat
 args:List AV
 res:AV
 N:Heap
def ku (C:Ctx) (L:List Row1):Prop:=∀ e ∈ L,Ev1 C e.f e.args [] (e.res,e.N)∧aT e.args = []
theorem ku.nil {C:Ctx}:ku C []:=by intro e h;simp at h
def xO (C:Ctx) (T:Cf) (n:Nat) (e:Row1):Bool :=
 (aT e.args).isEmpty && (match jC C (kR C (MX C T n) n) e.f e.args [] with
  | some (v,N)=>iK v e.res && eqH N e.N
  | none=>false)
theorem ku.cons {C:Ctx} {T:Cf} (hT:Below C T) {L:List Row1} (hL:ku C L) {n:Nat} {e:Row1} (h:xO C T n e = true):ku C (e :: L):=by
 intro x hx
 rcases List.mem_cons.1 hx with rfl | hx
 ·unfold xO at h
  simp only [Bool.and_eq_true,List.isEmpty_iff] at h
  refine ⟨?_,h.1⟩
  have h2:=h.2
  split at h2
  ·rename_i v N hv
   simp only [Bool.and_eq_true] at h2
   rw [← vX _ _ h2.1,← xB h2.2]
   exact Du (AB hT n) hv
  ·cases h2
 ·exact hL x hx
end Go.AM
namespace Go.AM
def iD (H:Heap):AV→Option AV
 | .ro _ p _=>some p
 | .sl o off len g=>match live H o g with
  | some ob=>if ob.ids then none else jo ob.p off len
  | none=>none
 | _=>none
theorem Qr {H:Heap} {t:Nat} {a p:AV} (h:iD H a = some p):∃ c x,fU H t a = some (.ro c p t,x):=by
 cases a <;> simp only [iD,reduceCtorEq] at h
 case ro c q t' =>
  simp only [Option.some.injEq] at h
  subst h
  exact ⟨c,_,rfl⟩
 case sl o off len g =>
  split at h
  ·rename_i ob hl
   split at h
   ·cases h
   ·rename_i hi
    exact ⟨if ob.z = 0∧aj ob.p = 0 then 0 else 2,⟨[o],[ob.tg]⟩,by simp [fU,eY,hl,hi,h]⟩
  ·cases h
def wQ:AV→Bool
 | .bool _ | .int _ _ | .str _ | .gZ | .jv | .ig=>true
 | .agg (.pb _) | .agg (.pi _ _)=>true
 | _=>false
theorem Ou {H:Heap} {t:Nat} {a:AV} (h:wQ a = true):fU H t a = some (a,⟨[],[]⟩):=by
 cases a <;> simp only [wQ,Bool.false_eq_true] at h <;> try rfl
 case agg p=>cases p <;> simp only [wQ,Bool.false_eq_true] at h <;> rfl
theorem JA {a:AV} (h:wQ a = true):ids a = []∧tags a = []:=by
 cases a <;> simp only [wQ,Bool.false_eq_true] at h <;> try exact ⟨rfl,rfl⟩
 case agg p=>cases p <;> simp only [wQ,Bool.false_eq_true] at h <;> exact ⟨rfl,rfl⟩
def faV (H:Heap) (x:AV) (off:Nat):Option AV :=
 match x with
 | .ptr o i f g=>match live H o g with | some ob=>some (yV ob.p o i f g off) | none=>none
 | .iQ p i f t=>some (yX p i f t off)
 | _=>none
def fvV (C:Ctx) (x:AV) (off ty:Nat):Option AV :=
 match x with
 | .agg (.pc l) =>
  if bK C ty then
   if ((l.drop off).take (sizeT C ty)).length = sizeT C ty then (l9 C ty ((l.drop off).take (sizeT C ty))).map .agg else none
  else if okT C ty then l[off]? else none
 | _=>none
theorem dW {C:Ctx} {s:TypeId} {n off:Nat} {ty:TypeId} (h:((fieldsOf C s)[n]?).map (fun fd=>(fd.offset,fd.type)) = some (off,ty)) (hs:(sizeT C ty == 0) = false) (H:Heap) (x:AV) :
  cO C H s x n = faV H x off:=by
 cases hf:(fieldsOf C s)[n]? with
 | none=>rw [hf] at h;cases h
 | some fd =>
  rw [hf] at h
  simp only [Option.map_some,Option.some.injEq,Prod.mk.injEq] at h
  obtain ⟨rfl,rfl⟩:=h
  have:¬ sizeT C fd.type = 0:=by simpa using hs
  unfold cO faV
  rw [hf]
  simp only [if_neg this]
  cases x <;> rfl
theorem iI {C:Ctx} {s:TypeId} {n off:Nat} {ty:TypeId} (h:((fieldsOf C s)[n]?).map (fun fd=>(fd.offset,fd.type)) = some (off,ty)) (x:AV) :
  jf C s x n = fvV C x off ty:=by
 cases hf:(fieldsOf C s)[n]? with
 | none=>rw [hf] at h;cases h
 | some fd =>
  rw [hf] at h
  simp only [Option.map_some,Option.some.injEq,Prod.mk.injEq] at h
  obtain ⟨rfl,rfl⟩:=h
  unfold jf fvV
  rw [hf]
  cases x <;> try rfl
  case agg p=>cases p <;> rfl
section
variable {C:Ctx} {f:Nat} {H:Heap}
theorem dQ (i:Nat):aO C f H i [] = some ([],[]):=rfl
theorem fJ {i:Nat} {a p:AV} {r as:List AV} {xs:List eU} (hrw:C.rw f i = false) (h:iD H a = some p) (hr:aO C f H (i + 1) r = some (as,xs)) :
  ∃ c x,aO C f H i (a :: r) = some (.ro c p (i + 1) :: as,x :: xs):=by
 obtain ⟨c,x,hx⟩:=Qr (t:=i + 1) h
 exact ⟨c,x,by simp only [aO,hrw,hx,hr]⟩
theorem iM {i:Nat} {a:AV} {r as:List AV} {xs:List eU} (hrw:C.rw f i = false) (h:wQ a = true) (hr:aO C f H (i + 1) r = some (as,xs)) :
  aO C f H i (a :: r) = some (a :: as,⟨[],[]⟩ :: xs):=by
 simp only [aO,hrw,Ou h,hr]
theorem fZ (H:Heap):reach H aJ [] [] = []:=zW H [] aJ
mutual
theorem je {ρ:Nat→Nat→Option (Nat × Nat)} {τ:Nat→Nat}:(v:AV)→ids v = []→(∀ t ∈ tags v,τ t = t)→ren ρ τ v = v
 | .ptr ..,h,_=>by simp [ids] at h
 | .sl ..,h,_=>by simp [ids] at h
 | .map ..,h,_=>by simp [ids] at h
 | .ro c p t,_,ht=>by simp only [ren,ht t (by simp [tags])]
 | .iQ p i f t,_,ht=>by simp only [ren,ht t (by simp [tags])]
 | .agg p,h,ht=>by simp only [ids] at h;simp only [tags] at ht;simp only [ren,je p h ht]
 | .tup l,h,ht=>by simp only [ids] at h;simp only [tags] at ht;simp only [ren,eX l h ht]
 | .fn f l,h,ht=>by simp only [ids] at h;simp only [tags] at ht;simp only [ren,eX l h ht]
 | .pc l,h,ht=>by simp only [ids] at h;simp only [tags] at ht;simp only [ren,eX l h ht]
 | .pr e l,h,ht=>by simp only [ids] at h;simp only [tags] at ht;simp only [ren,eX l h ht]
 | .pm l,h,ht=>by simp only [ids] at h;simp only [tags] at ht;simp only [ren,eX l h ht]
 | .top,_,_=>rfl
 | .bool _,_,_=>rfl
 | .int _ _,_,_=>rfl
 | .str _,_,_=>rfl
 | .gZ,_,_=>rfl
 | .jv,_,_=>rfl
 | .ig,_,_=>rfl
 | .pn,_,_=>rfl
 | .pb _,_,_=>rfl
 | .pi _ _,_,_=>rfl
theorem eX {ρ:Nat→Nat→Option (Nat × Nat)} {τ:Nat→Nat}:(l:List AV)→aT l = []→(∀ t ∈ bW l,τ t = t)→dN ρ τ l = l
 | [],_,_=>rfl
 | a :: r,h,ht=>by
  simp only [aT,List.append_eq_nil_iff] at h
  simp only [bW,List.mem_append] at ht
  simp only [dN,je a h.1 (fun t h'=>ht t (.inl h')),eX r h.2 (fun t h'=>ht t (.inr h'))]
end
mutual
theorem iw {ρ ρ':Nat→Nat→Option (Nat × Nat)} {τ τ':Nat→Nat}:(v:AV)→(∀ o g,o ∈ ids v→ρ o g = ρ' o g)→(∀ t ∈ tags v,τ t = τ' t)→ren ρ τ v = ren ρ' τ' v
 | .ptr o i f g,h,_=>by simp only [ren,h o g (by simp [ids])]
 | .sl o a b g,h,_=>by simp only [ren,h o g (by simp [ids])]
 | .map o g,h,_=>by simp only [ren,h o g (by simp [ids])]
 | .ro c p t,_,ht=>by simp only [ren,ht t (by simp [tags])]
 | .iQ p i f t,_,ht=>by simp only [ren,ht t (by simp [tags])]
 | .agg p,h,ht=>by simp only [ids] at h;simp only [tags] at ht;simp only [ren,iw p h ht]
 | .tup l,h,ht=>by simp only [ids] at h;simp only [tags] at ht;simp only [ren,oL l h ht]
 | .fn f l,h,ht=>by simp only [ids] at h;simp only [tags] at ht;simp only [ren,oL l h ht]
 | .pc l,h,ht=>by simp only [ids] at h;simp only [tags] at ht;simp only [ren,oL l h ht]
 | .pr e l,h,ht=>by simp only [ids] at h;simp only [tags] at ht;simp only [ren,oL l h ht]
 | .pm l,h,ht=>by simp only [ids] at h;simp only [tags] at ht;simp only [ren,oL l h ht]
 | .top,_,_=>rfl
 | .bool _,_,_=>rfl
 | .int _ _,_,_=>rfl
 | .str _,_,_=>rfl
 | .gZ,_,_=>rfl
 | .jv,_,_=>rfl
 | .ig,_,_=>rfl
 | .pn,_,_=>rfl
 | .pb _,_,_=>rfl
 | .pi _ _,_,_=>rfl
theorem oL {ρ ρ':Nat→Nat→Option (Nat × Nat)} {τ τ':Nat→Nat}:(l:List AV)→(∀ o g,o ∈ aT l→ρ o g = ρ' o g)→(∀ t ∈ bW l,τ t = τ' t)→dN ρ τ l = dN ρ' τ' l
 | [],_,_=>rfl
 | a :: r,h,ht=>by
  simp only [aT,List.mem_append] at h
  simp only [bW,List.mem_append] at ht
  simp only [dN,iw a (fun o g h'=>h o g (.inl h')) (fun t h'=>ht t (.inl h')),oL r (fun o g h'=>h o g (.inr h')) (fun t h'=>ht t (.inr h'))]
end
theorem lK (l:List Nat):disjoint l [] = true:=lS.2 fun _ _ h=>by simp at h
theorem KZ {aP:List eU} {v:AV} {H1:Heap} (hi:ids v = []) (ht:tags v = []):wrap H [] aP v H1 = some (v,H):=by
 unfold wrap
 simp only [List.length_nil,List.range_zero,List.nil_append,hi,fZ,List.filter_nil,List.map_nil,ht,aG,List.append_nil,List.all_nil,if_true,List.flatMap_nil,strike,dH]
 rw [je v hi (by simp [ht])]
def fresh (ob:Obj):Obj:={ ob with g:=0,tg:=0 }
def jQ:AV→Bool
 | .pb _ | .pi _ _ | .pn=>true
 | _=>false
theorem sJ {ρ:Nat→Nat→Option (Nat × Nat)} {τ:Nat→Nat} {p:AV} (h:jQ p = true):ren ρ τ p = p:=by
 cases p <;> simp [jQ] at h <;> rfl
theorem Fa {H1:Heap} {o:Nat} {ob:Obj} (ho:H1[o]? = some (some ob)) (hob:ob.ids = false):reach H1 aJ [o] [] = [o]:=by
 show reach H1 (99998 + 1 + 1) [o] [] = [o]
 simp [reach,ho,hob]
theorem Qs {aP:List eU} {v:AV} {H1:Heap} {o g:Nat} {ob:Obj} (hi:ids v = [o]) (ht:tags v = []) (hl:live H1 o g = some ob) (hob:ob.ids = false) (hp:jQ ob.p = true) (htg:ob.tg = 0) :
  wrap H [] aP v H1 = some (ren (fun o' g'=>if o' = o∧g' = g then some (H.length,0) else none) (fun t=>t) v,H ++ [some (fresh ob)]):=by
 obtain ⟨h1,h2⟩:=bI.1 hl
 unfold wrap
 have hat:bD H1 o = some ob:=by simp [bD,h1]
 have Qu:dI ob = [0]:=by
  unfold dI
  rw [hob,htg]
  cases hq:ob.p <;> simp [hq,jQ] at hp <;> simp
 have hρ:ren (dh H [] [o] H1) (dM aP) v = ren (fun o' g'=>if o' = o∧g' = g then some (H.length,0) else none) (fun t=>t) v:=by
  have key:∀ o' g',o' ∈ ids v→dh H [] [o] H1 o' g' = if o' = o∧g' = g then some (H.length,0) else none:=by
   intro o' g' hm
   rw [hi] at hm
   simp only [List.mem_singleton] at hm
   subst hm
   unfold dh
   by_cases hg:g' = g
   ·subst hg
    rw [hl]
    simp [idxOf]
   ·have:live H1 o' g' = none:=by
     simp only [live,h1]
     rw [if_neg (fun e=>hg (e.symm.trans h2))]
    rw [this]
    simp [hg]
  exact iw v (fun o' g' hm=>key o' g' hm) (by simp [ht])
 simp only [List.length_nil,List.range_zero,List.nil_append,hi,Fa h1 hob,ht,aG,List.append_nil,List.map_nil,hat,Qu,List.map_cons,Nat.zero_le,decide_true,List.filter_cons_of_pos,List.filter_nil,strike,dH]
 have h0:dY aP 0 = some 0:=rfl
 simp only [List.all_cons,List.all_nil,h0,Option.isSome_some,Bool.and_true,if_true,List.flatMap_cons,List.flatMap_nil,dO,List.append_nil,List.filter_nil,strike,Option.map_some,Option.some.injEq,Prod.mk.injEq]
 refine ⟨hρ,?_⟩
 simp only [bn,sJ hp,fresh,htg]
 rfl
variable {T:Cf}
theorem Ev1.plain (hT:Below C T) {args:List AV} {fn:Func} {c:Code} {as:List AV} {aP:List eU} {out:Out} {l:List AV}
  (hF:C.P.funcs[f]? = some fn) (hb:fn.body = some c) (hl:aO C f H 0 args = some (as,aP)) (hi:aT as = []) (hn:as.length + 1 < dJ)
  (he:Run C T f 0 c (numbered 0 (coerce C as (aV C f))) [] out) (hex:out.ex = .normal∨out.ex = .ret) (hr:bf C out.fr out.H fn.results.toList = some l)
  (hv:ids (aW l) = []) (ht:tags (aW l) = []):Ev1 C f args H (aW l,H):=by
 refine Ev1.of hT hF hb hl ?_ ?_ hex hr ?_
 ·rw [hi,fZ]
  simp only [Bool.and_eq_true,decide_eq_true_eq]
  exact ⟨List.all_eq_true.2 fun x _=>lK x.objs,hn⟩
 ·rw [hi,fZ,eX as hi (fun _ _=>rfl)]
  exact he
 ·rw [hi,fZ]
  exact KZ hv ht
theorem Ev1.fresh (hT:Below C T) {args:List AV} {fn:Func} {c:Code} {as:List AV} {aP:List eU} {out:Out} {l:List AV} {o g:Nat} {ob:Obj}
  (hF:C.P.funcs[f]? = some fn) (hb:fn.body = some c) (hl:aO C f H 0 args = some (as,aP)) (hi:aT as = []) (hn:as.length + 1 < dJ)
  (he:Run C T f 0 c (numbered 0 (coerce C as (aV C f))) [] out) (hex:out.ex = .normal∨out.ex = .ret) (hr:bf C out.fr out.H fn.results.toList = some l)
  (hv:ids (aW l) = [o]) (ht:tags (aW l) = []) (ho:live out.H o g = some ob) (hob:ob.ids = false) (hp:jQ ob.p = true) (htg:ob.tg = 0) :
  Ev1 C f args H (ren (fun o' g'=>if o' = o∧g' = g then some (H.length,0) else none) (fun t=>t) (aW l),H ++ [some (AM.fresh ob)]):=by
 refine Ev1.of hT hF hb hl ?_ ?_ hex hr ?_
 ·rw [hi,fZ]
  simp only [Bool.and_eq_true,decide_eq_true_eq]
  exact ⟨List.all_eq_true.2 fun x _=>lK x.objs,hn⟩
 ·rw [hi,fZ,eX as hi (fun _ _=>rfl)]
  exact he
 ·rw [hi,fZ]
  exact Qs hv ht ho hob hp htg
end
-- what a call tells of what is Xt,whatever the form in which it is handed over
section
variable {C:Ctx} {f:Nat} {H:Heap}
theorem Dx {t:Nat} {a a':AV} {x:eU} (h:eY H t a = some (a',x)) (hi:ids a' = []) :
  ∃ y:eU,(∀ H2,eY H2 t a' = some (a',y))∧(∀ s ∈ y.tags,s = t)∧y.objs = []∧(y.tags = []→x.tags = []∧x.objs = []):=by
 cases a
 case sl o off len g =>
  simp only [eY] at h
  split at h
  ·rename_i ob hl
   split at h
   ·cases h
   ·simp only [Option.map_eq_some_iff,Prod.mk.injEq] at h
    obtain ⟨p,_,rfl,rfl⟩:=h
    exact ⟨⟨[],[t]⟩,fun _=>rfl,by simp,rfl,by simp⟩
  ·cases h
 case ro c p t' =>
  simp only [eY,Option.some.injEq,Prod.mk.injEq] at h
  obtain ⟨rfl,rfl⟩:=h
  exact ⟨⟨[],[t]⟩,fun _=>rfl,by simp,rfl,by simp⟩
 case iQ p i g t' =>
  simp only [eY,Option.some.injEq,Prod.mk.injEq] at h
  obtain ⟨rfl,rfl⟩:=h
  exact ⟨⟨[],[t]⟩,fun _=>rfl,by simp,rfl,by simp⟩
 all_goals
  simp only [eY] at h
  split at h
  ·rename_i ht
   simp only [Option.some.injEq,Prod.mk.injEq] at h
   obtain ⟨rfl,rfl⟩:=h
   exact ⟨⟨[],[]⟩,fun _=>by simp only [eY];rw [if_pos ht],by simp,rfl,fun _=>⟨rfl,rfl⟩⟩
  ·cases h
theorem xR {t:Nat}:∀ {l l':List AV} {x:eU},iP H t l = some (l',x)→aT l' = [] →
  ∃ y:eU,(∀ H2,iP H2 t l' = some (l',y))∧(∀ s ∈ y.tags,s = t)∧y.objs = []∧(y.tags = []→x.tags = []∧x.objs = [])
 | [],l',x,h,_=>by
  simp only [iP,Option.some.injEq,Prod.mk.injEq] at h
  obtain ⟨rfl,rfl⟩:=h
  exact ⟨⟨[],[]⟩,fun _=>rfl,by simp,rfl,fun _=>⟨rfl,rfl⟩⟩
 | a :: l,l',x,h,hi=>by
  simp only [iP] at h
  split at h
  ·rename_i a' x1 r' x2 e1 e2
   simp only [Option.some.injEq,Prod.mk.injEq] at h
   obtain ⟨rfl,rfl⟩:=h
   simp only [aT,List.append_eq_nil_iff] at hi
   obtain ⟨y1,q1,q2,q3,q4⟩:=Dx e1 hi.1
   obtain ⟨y2,p1,p2,p3,p4⟩:=xR e2 hi.2
   refine ⟨⟨y1.objs ++ y2.objs,y1.tags ++ y2.tags⟩,fun H2=>by simp only [iP,q1,p1],?_,by simp [q3,p3],?_⟩
   ·intro s hs
    rcases List.mem_append.1 hs with hs | hs
    ·exact q2 s hs
    ·exact p2 s hs
   ·intro hy
    simp only [List.append_eq_nil_iff] at hy
    obtain ⟨h1,h2⟩:=q4 hy.1
    obtain ⟨h3,h4⟩:=p4 hy.2
    simp [h1,h2,h3,h4]
  ·cases h
theorem La {t:Nat} {a a':AV} {x:eU} (h:fU H t a = some (a',x)) (hi:ids a' = []) :
  ∃ y:eU,(∀ H2,fU H2 t a' = some (a',y))∧(∀ s ∈ y.tags,s = t)∧y.objs = []∧(y.tags = []→x.tags = []∧x.objs = []):=by
 unfold fU at h
 split at h
 ·rename_i l
  cases hl:iP H t l with
  | none=>rw [hl] at h;cases h
  | some z =>
   obtain ⟨l',x'⟩:=z
   rw [hl] at h
   simp only [Option.map_some,Option.some.injEq,Prod.mk.injEq] at h
   obtain ⟨rfl,rfl⟩:=h
   obtain ⟨y,q1,q2⟩:=xR hl (by simpa [ids] using hi)
   exact ⟨y,fun H2=>by simp only [fU,q1 H2,Option.map_some],q2⟩
 ·rename_i g l
  cases hl:iP H t l with
  | none=>rw [hl] at h;cases h
  | some z =>
   obtain ⟨l',x'⟩:=z
   rw [hl] at h
   simp only [Option.map_some,Option.some.injEq,Prod.mk.injEq] at h
   obtain ⟨rfl,rfl⟩:=h
   obtain ⟨y,q1,q2⟩:=xR hl (by simpa [ids] using hi)
   exact ⟨y,fun H2=>by simp only [fU,q1 H2,Option.map_some],q2⟩
 ·rename_i n1 n2
  obtain ⟨y,q1,q2⟩:=Dx h hi
  refine ⟨y,fun H2=>?_,q2⟩
  unfold fU
  split
  ·rename_i l
   exfalso
   cases a <;> simp only [eY] at h <;> first | (split at h <;> first | (simp only [Option.some.injEq,Prod.mk.injEq] at h;cases h.1;exact n1 _ rfl) | cases h | skip) | skip
   all_goals simp_all
  ·rename_i g l
   exfalso
   cases a <;> simp only [eY] at h <;> first | (split at h <;> first | (simp only [Option.some.injEq,Prod.mk.injEq] at h;cases h.1;exact n2 _ _ rfl) | cases h | skip) | skip
   all_goals simp_all
  ·exact q1 H2
theorem wR:∀ {args as:List AV} {i:Nat} {xs:List eU},aO C f H i args = some (as,xs)→aT as = [] →
  ∃ ys:List eU,(∀ H2,aO C f H2 i as = some (as,ys))∧ys.length = xs.length ∧
   ∀ k y,ys[k]? = some y→∃ x,xs[k]? = some x∧(∀ s ∈ y.tags,s = i + k + 1)∧y.objs = []∧(y.tags = []→x.tags = []∧x.objs = [])
 | [],as,i,xs,h,_=>by
  simp only [aO,Option.some.injEq,Prod.mk.injEq] at h
  obtain ⟨rfl,rfl⟩:=h
  exact ⟨[],fun _=>rfl,rfl,fun k y h=>by simp at h⟩
 | a :: l,as,i,xs,h,hi=>by
  have e:∀ (H:Heap) (a:AV) (l:List AV),ids a = []→aO C f H i (a :: l) = match fU H (i + 1) a,aO C f H (i + 1) l with
    | some (a',x),some (r',y)=>some (a' :: r',x :: y)
    | _,_=>none:=by
   intro H a l ha
   cases a
   case sl o off len g=>simp [ids] at ha
   all_goals
    simp only [aO]
    generalize fU H (i + 1) _ = x
    generalize aO C f H (i + 1) l = y
    cases C.rw f i <;> rcases x with _ | ⟨_,_⟩ <;> rcases y with _ | ⟨_,_⟩ <;> rfl
  simp only [aO] at h
  split at h
  ·rename_i a' x1 r' x2 e1 e2
   simp only [Option.some.injEq,Prod.mk.injEq] at h
   obtain ⟨rfl,rfl⟩:=h
   simp only [aT,List.append_eq_nil_iff] at hi
   have e3:fU H (i + 1) a = some (a',x1):=by
    split at e1
    ·simp only [Option.some.injEq,Prod.mk.injEq] at e1
     obtain ⟨rfl,rfl⟩:=e1
     simp [ids] at hi
    ·exact e1
   obtain ⟨y1,q1,q2,q3,q4⟩:=La e3 hi.1
   obtain ⟨ys,p1,p2,p3⟩:=wR e2 hi.2
   refine ⟨y1 :: ys,fun H2=>by rw [e H2 a' r' hi.1,q1,p1],by simp [p2],fun k y hy=>?_⟩
   cases k with
   | zero =>
    simp only [List.getElem?_cons_zero,Option.some.injEq] at hy
    subst hy
    exact ⟨x1,rfl,q2,q3,q4⟩
   | succ k =>
    obtain ⟨x,h1,h2,h3⟩:=p3 k y (by simpa using hy)
    exact ⟨x,by simpa using h1,fun s hs=>by rw [h2 s hs];omega,h3⟩
  ·cases h
mutual
theorem jR {ρ:Nat→Nat→Option (Nat × Nat)} {τ:Nat→Nat}:(v:AV)→tags (ren ρ τ v) = (tags v).map τ
 | .ptr o i f g=>by simp only [ren];rcases ρ o g with _ | ⟨_,_⟩ <;> rfl
 | .sl o a b g=>by simp only [ren];rcases ρ o g with _ | ⟨_,_⟩ <;> rfl
 | .map o g=>by simp only [ren];rcases ρ o g with _ | ⟨_,_⟩ <;> rfl
 | .ro c p t=>rfl
 | .iQ p i f t=>rfl
 | .agg p=>by simp only [ren,tags,jR p]
 | .tup l=>by simp only [ren,tags,lg l]
 | .fn f l=>by simp only [ren,tags,lg l]
 | .pc l=>by simp only [ren,tags,lg l]
 | .pr e l=>by simp only [ren,tags,lg l]
 | .pm l=>by simp only [ren,tags,lg l]
 | .top=>rfl
 | .bool _=>rfl
 | .int _ _=>rfl
 | .str _=>rfl
 | .gZ=>rfl
 | .jv=>rfl
 | .ig=>rfl
 | .pn=>rfl
 | .pb _=>rfl
 | .pi _ _=>rfl
theorem lg {ρ:Nat→Nat→Option (Nat × Nat)} {τ:Nat→Nat}:(l:List AV)→bW (dN ρ τ l) = (bW l).map τ
 | []=>rfl
 | a :: r=>by simp only [dN,bW,List.map_append,jR a,lg r]
end
theorem Lc {ρ:Nat→Nat→Option (Nat × Nat)} {τ:Nat→Nat} {g:Nat} (ob:Obj):dI (bn ρ τ g ob) = (dI ob).map τ:=by
 unfold dI bn
 simp only
 split
 ·exact jR ob.p
 ·simp only [List.map_cons,List.cons.injEq,true_and]
  cases ob.p <;> simp only [ren,List.map_nil]
  case ptr o i f g=>rcases ρ o g with _ | ⟨_,_⟩ <;> rfl
  case sl o a b g=>rcases ρ o g with _ | ⟨_,_⟩ <;> rfl
  case map o g=>rcases ρ o g with _ | ⟨_,_⟩ <;> rfl
  case pm l=>exact lg l
theorem sK {ρ:Nat→Nat→Option (Nat × Nat)} {τ:Nat→Nat} {g:Nat→Nat}:∀ (l:List (Option Obj)),aG (l.map fun x=>x.map fun ob=>bn ρ τ (g ob.g) ob) = (aG l).map τ
 | []=>rfl
 | none :: r=>by simp only [List.map_cons,Option.map_none,aG,sK r]
 | some ob :: r=>by simp only [List.map_cons,Option.map_some,aG,List.map_append,Lc,sK r]
theorem qL {t:Nat} (ht:t ≠ 0):∀ {l:List Nat},(∀ s ∈ l,s = t)→l ≠ []→fK l = some t
 | [],_,h=>absurd rfl h
 | a :: [],h,_=>by
  have:=h a (by simp)
  subst this
  simp [fK,gu,ht]
 | a :: b :: r,h,_=>by
  have:=h a (by simp)
  subst this
  have ih:=qL ht (l:=b :: r) (fun s hs=>h s (by simp at hs ⊢;right;exact hs)) (by simp)
  rw [fK,ih]
  simp [gu,ht]
def wU (v:AV):Bool:=(tags v).all (· == 0)
def qA (N:Heap):Bool:=N.all fun | some ob=>ob.tg == 0 && (tags ob.p).all (· == 0) | none=>true
theorem Ld {v:AV} (h:wU v = true):∀ t ∈ tags v,t = 0:=fun t ht=>by simpa using List.all_eq_true.1 h t ht
theorem Dy {N:Heap} (h:qA N = true) {ob:Obj} (ho:some ob ∈ N):ob.tg = 0∧∀ t ∈ tags ob.p,t = 0:=by
 have:=List.all_eq_true.1 h _ ho
 simp only [Bool.and_eq_true,beq_iff_eq,List.all_eq_true] at this
 exact this
theorem SV {ob:Obj} (h:ob.tg = 0∧∀ t ∈ tags ob.p,t = 0):∀ t ∈ dI ob,t = 0:=by
 intro t ht
 unfold dI at ht
 split at ht
 ·exact h.2 t ht
 ·rcases List.mem_cons.1 ht with rfl | ht
  ·exact h.1
  ·cases hp:ob.p <;> rw [hp] at ht <;> simp only [List.not_mem_nil] at ht
   rw [hp] at h
   exact h.2 t ht
theorem zX:∀ {N:Heap},qA N = true→∀ t ∈ aG N,t = 0
 | [],_,t,ht=>by simp [aG] at ht
 | none :: r,h,t,ht=>by
  refine zX (N:=r) ?_ t (by simpa [aG] using ht)
  simpa [qA] using h
 | some ob :: r,h,t,ht=>by
  simp only [aG,List.mem_append] at ht
  rcases ht with ht | ht
  ·exact SV (Dy h (by simp)) t ht
  ·refine zX (N:=r) ?_ t ht
   simp only [qA,List.all_cons,Bool.and_eq_true] at h
   exact h.2
theorem Ev1.Xt {args as:List AV} {xs:List eU} {v:AV} {N:Heap} (h:Ev1 C f as [] (v,N)) (hl:aO C f H 0 args = some (as,xs)) (hi:aT as = [])
  (hcv:wU v = true) (hcN:qA N = true):Ev1 C f args H (dX H.length v,H ++ kU H.length N):=by
 have hv:=Ld hcv
 have hN:=zX hcN
 obtain ⟨ys,k1,k2,k3⟩:=wR hl hi
 obtain ⟨n0,h0⟩:=h
 have kz:∀ t,dM (ys ++ [⟨[],[]⟩]) t = 0→dM (xs ++ [⟨[],[]⟩]) t = 0:=by
  intro t hb0
  unfold dM dY at hb0 ⊢
  split
  ·rfl
  ·rename_i ht0
   rw [if_neg ht0] at hb0
   by_cases hlt:t - 1 < ys.length
   ·rw [List.getElem?_append_left hlt,List.getElem?_eq_getElem hlt] at hb0
    simp only at hb0
    obtain ⟨x,q1,q2,q3,q4⟩:=k3 (t - 1) _ (List.getElem?_eq_getElem hlt)
    rw [List.getElem?_append_left (by omega),q1]
    simp only
    have hnil:(ys[t - 1]).tags = []:=by
     apply Classical.byContradiction
     intro hne
     have:=qL (t:=0 + (t - 1) + 1) (by omega) q2 hne
     rw [this] at hb0
     simp at hb0
    rw [(q4 hnil).1]
    rfl
   ·by_cases hlt2:t - 1 = ys.length
    ·have e:(xs ++ [(⟨[],[]⟩:eU)])[t - 1]? = some ⟨[],[]⟩:=by
      rw [List.getElem?_append_right (by omega),hlt2,k2]
      simp
     rw [e]
     rfl
    ·have e:(xs ++ [(⟨[],[]⟩:eU)])[t - 1]? = none:=by
      rw [List.getElem?_eq_none]
      simp
      omega
     rw [e]
     rfl
 refine ⟨n0 + 1,fun n hn=>?_⟩
 obtain ⟨n,rfl⟩:∃ i,n = i + 1:=⟨n - 1,by omega⟩
 have h1:=h0 (n + 1) (by omega)
 simp only [kG,jC] at h1 ⊢
 rw [k1 []] at h1
 rw [hl]
 simp only at h1 ⊢
 rw [hi] at h1 ⊢
 simp only [zW,List.map_nil,List.length_nil] at h1 ⊢
 rw [eX as hi (fun _ _=>rfl)] at h1 ⊢
 split at h1
 ·rename_i hc
  have hc':((xs.all fun x=>disjoint x.objs []) && decide (as.length + 1 < dJ)) = true:=by
   simp only [Bool.and_eq_true] at hc ⊢
   exact ⟨List.all_eq_true.2 fun x _=>lK x.objs,hc.2⟩
  rw [if_pos hc']
  split at h1
  ·cases h1
  ·rename_i u H1 hb
   unfold wrap at h1 ⊢
   simp only [List.length_nil,List.range_zero,List.nil_append,List.map_nil,aG,List.append_nil] at h1 ⊢
   generalize hnew:(List.filter (fun o=>decide (0≤o)) (reach H1 aJ (ids u) [])) = new at h1 ⊢
   split at h1
   ·rename_i hu
    simp only [Option.some.injEq,Prod.mk.injEq] at h1
    obtain ⟨h2,h3⟩:=h1
    have Vj:∀ t,dO (ys ++ [⟨[],[]⟩]) t = []:=by
     intro t
     unfold dO
     split
     ·rfl
     ·split
      ·rename_i x hx
       rcases List.mem_append.1 (List.mem_of_getElem? hx) with hx | hx
       ·obtain ⟨k,hk⟩:=List.getElem?_of_mem hx
        obtain ⟨_,_,_,q,_⟩:=k3 k x hk
        exact q
       ·simp only [List.mem_singleton] at hx
        rw [hx]
      ·rfl
    have aed:∀ l:List Nat,l.flatMap (dO (ys ++ [⟨[],[]⟩])) = []:=fun l=>by simp [Vj]
    simp only [aed,List.filter_nil] at h3
    simp only [List.filter_nil,strike,dH,List.nil_append] at h3
    -- all tags used are none
    have hz:∀ t ∈ tags u ++ aG (new.map (bD H1)),dM (ys ++ [⟨[],[]⟩]) t = 0:=by
     intro t ht
     rcases List.mem_append.1 ht with ht | ht
     ·refine hv _ ?_
      rw [← h2,jR]
      exact List.mem_map.2 ⟨t,ht,rfl⟩
     ·refine hN _ ?_
      rw [← h3]
      have:=sK (ρ:=dh [] [] new H1) (τ:=dM (ys ++ [⟨[],[]⟩])) (g:=fun _=>0) (new.map (bD H1))
      rw [List.map_map] at this
      rw [show (fun o=>Option.map (bn (dh [] [] new H1) (dM (ys ++ [⟨[],[]⟩])) 0) (bD H1 o)) = ((fun x:Option Obj=>x.map fun ob=>bn (dh [] [] new H1) (dM (ys ++ [⟨[],[]⟩])) 0 ob) ∘ bD H1) from rfl,this]
      exact List.mem_map.2 ⟨t,ht,rfl⟩
    have hk:∀ t ∈ tags u ++ aG (new.map (bD H1)),dY (xs ++ [⟨[],[]⟩]) t = some 0∧dO (xs ++ [⟨[],[]⟩]) t = []:=by
     intro t ht
     have hb0:=hz t ht
     have hs:=List.all_eq_true.1 hu t ht
     by_cases ht0:t = 0
     ·subst ht0
      exact ⟨rfl,rfl⟩
     ·unfold dM at hb0
      unfold dY at hb0 hs ⊢
      unfold dO
      rw [if_neg ht0] at hb0 hs ⊢
      rw [if_neg ht0]
      by_cases hlt:t - 1 < ys.length
      ·rw [List.getElem?_append_left hlt,List.getElem?_eq_getElem hlt] at hb0 hs
       simp only at hb0 hs
       obtain ⟨x,q1,q2,q3,q4⟩:=k3 (t - 1) _ (List.getElem?_eq_getElem hlt)
       rw [List.getElem?_append_left (by omega),q1]
       simp only
       have hnil:(ys[t - 1]).tags = []:=by
        apply Classical.byContradiction
        intro hne
        have:=qL (t:=0 + (t - 1) + 1) (by omega) q2 hne
        rw [this] at hb0
        simp at hb0
       obtain ⟨q5,q6⟩:=q4 hnil
       rw [q5,q6]
       exact ⟨rfl,rfl⟩
      ·by_cases hlt2:t - 1 = ys.length
       ·have e:(xs ++ [(⟨[],[]⟩:eU)])[t - 1]? = some ⟨[],[]⟩:=by
         rw [List.getElem?_append_right (by omega),hlt2,k2]
         simp
        rw [e]
        exact ⟨rfl,rfl⟩
       ·have e:(ys ++ [(⟨[],[]⟩:eU)])[t - 1]? = none:=by
         rw [List.getElem?_eq_none]
         simp
         omega
        rw [e] at hs
        cases hs
    have hu':((tags u ++ aG (new.map (bD H1))).all fun t=>(dY (xs ++ [⟨[],[]⟩]) t).isSome) = true:=List.all_eq_true.2 fun t ht=>by rw [(hk t ht).1];rfl
    rw [if_pos hu']
    have hfl:(tags u ++ aG (new.map (bD H1))).flatMap (dO (xs ++ [⟨[],[]⟩])) = []:=List.flatMap_eq_nil_iff.2 fun t ht=>(hk t ht).2
    rw [hfl]
    simp only [List.filter_nil,strike,dH,Option.some.injEq,Prod.mk.injEq]
    have Ed:∀ o g,dh H [] new H1 o g = (dh [] [] new H1 o g).map fun x=>(x.1 + H.length,x.2):=by
     intro o g
     unfold dh
     split
     ·have:=vw new o 0 H.length
      rw [Nat.zero_add] at this
      simp [this,Option.map_map,Function.comp_def]
     ·rfl
    have hτ:∀ t ∈ tags u ++ aG (new.map (bD H1)),dM (xs ++ [⟨[],[]⟩]) t = dM (ys ++ [⟨[],[]⟩]) t:=fun t ht=>by
     rw [hz t ht]
     unfold dM
     rw [(hk t ht).1]
     rfl
    refine ⟨?_,?_⟩
    ·rw [← h2,← oK Ed u]
     exact iw u (fun _ _ _=>rfl) fun t ht=>hτ t (List.mem_append_left _ ht)
    ·rw [← h3]
     congr 1
     simp only [kU,List.map_map]
     refine List.map_congr_left fun o ho=>?_
     simp only [Function.comp]
     cases hob:bD H1 o with
     | none=>rfl
     | some ob =>
      have hmem:some (bn (dh [] [] new H1) (dM (ys ++ [⟨[],[]⟩])) 0 ob) ∈ N:=by
       rw [← h3]
       exact List.mem_map.2 ⟨o,ho,by rw [hob];rfl⟩
      obtain ⟨c1,c2⟩:=Dy hcN hmem
      simp only [bn] at c1 c2
      have e1:=oK (τ:=dM (ys ++ [⟨[],[]⟩])) Ed ob.p
      simp only [dX] at e1
      have e2:ren (dh H [] new H1) (dM (xs ++ [⟨[],[]⟩])) ob.p = ren (dh H [] new H1) (dM (ys ++ [⟨[],[]⟩])) ob.p:=by
       refine iw ob.p (fun _ _ _=>rfl) fun t ht=>?_
       have:dM (ys ++ [⟨[],[]⟩]) t = 0:=c2 _ (by rw [jR];exact List.mem_map.2 ⟨t,ht,rfl⟩)
       rw [this,kz t this]
      simp only [Option.map_some,bn,Option.some.injEq]
      rw [← e1,e2,kz _ c1,c1]
   ·cases h1
 ·cases h1
def x9 (C:Ctx) (S:Nat→List AV→Option (AV × Heap)):Cf:=fun f args H =>
 match aO C f H 0 args with
 | some (as,_)=>if (aT as).isEmpty then match S f as with
   | some (v,N)=>if (wU v && qA N) = true then some (dX H.length v,H ++ kU H.length N) else none
   | none=>none
  else none
 | none=>none
theorem uq {S:Nat→List AV→Option (AV × Heap)} (hS:∀ f as v N,S f as = some (v,N)→Ev1 C f as [] (v,N)):Below C (x9 C S):=by
 intro f args H r h
 unfold x9 at h
 split at h
 ·rename_i as xs hl
  split at h
  ·rename_i hi
   split at h
   ·rename_i v N hs
    split at h
    ·rename_i hc
     simp only [Bool.and_eq_true] at hc
     rw [← Option.some.inj h]
     exact Ev1.Xt (hS f as v N hs) hl (List.isEmpty_iff.1 hi) hc.1 hc.2
    ·cases h
   ·cases h
  ·cases h
 ·cases h
def Xu (L:List Row1) (f:Nat) (as:List AV):Option (AV × Heap):=(L.find? fun e=>e.f == f && eqL e.args as).map fun e=>(e.res,e.N)
def rowT (C:Ctx) (L:List Row1):Cf:=fun f args H=>if (L.any fun e=>e.f == f) then x9 C (Xu L) f args H else none
theorem BI {L:List Row1} (h:ku C L):Below C (rowT C L):=by
 intro f args H r hr
 unfold rowT at hr
 split at hr
 ·refine uq (fun f as v N hs=>?_) f args H r hr
  unfold Xu at hs
  obtain ⟨e,he,h1⟩:=Option.map_eq_some_iff.1 hs
  simp only [Prod.mk.injEq] at h1
  obtain ⟨rfl,rfl⟩:=h1
  have h3:=List.find?_some he
  simp only [Bool.and_eq_true,beq_iff_eq] at h3
  rw [← h3.1,← xG _ _ h3.2]
  exact (h e (List.mem_of_find?_eq_some he)).1
 ·cases hr
end
def jK (id:Nat) (o:Out):Out:=match o.ex with
 | .exit i=>if i = id then ⟨.normal,o.fr,o.H⟩ else o
 | _=>o
section
variable {C:Ctx} {T:Cf} {f m:Nat} {fr:Frame} {H:Heap} {out:Out}
theorem Run.block' {id:Nat} {c:Code} {o:Out} (h:Run C T f m c fr H o):Run C T f m (.block id c) fr H (jK id o):=by
 obtain ⟨ex,fr',H'⟩:=o
 cases ex with
 | normal=>exact Run.block h (fun e=>by cases e)
 | ret=>exact Run.block h (fun e=>by cases e)
 | exit i =>
  by_cases hi:i = id
  ·subst hi
   simp only [jK,if_true]
   exact Run.fV h
  ·simp only [jK,hi,if_false]
   exact Run.block h (by simpa using hi)
theorem Run.seq' {a b:Code} {o:Out} (h:Run C T f m a fr H o) (h1:∀ fr' H',o = ⟨.normal,fr',H'⟩→Run C T f m b fr' H' out) (h2:o.ex ≠ .normal→o = out):Run C T f m (.seq a b) fr H out:=by
 obtain ⟨ex,fr',H'⟩:=o
 cases ex with
 | normal=>exact Run.seq h (h1 fr' H' rfl)
 | ret=>have:=h2 (by simp);subst this;exact Run.bH h (by simp)
 | exit i=>have:=h2 (by simp);subst this;exact Run.bH h (by simp)
end
end Go.AM
namespace Go.AM
attribute [go_sem] exec kX yO jV step fG aK eu gX aI jw iR aC pY iU pW bZ CO jD aQ qX jM lenV D8 unV arith Gs yw kW live upd Gq NC Ib DT retag uo og qg nJ fK gu tags ids scalar aY sW faV fvV yV yX
end Go.AM
namespace Go.AM
theorem Vk {k:IntKind} (hk:k.signed = false) {n:Int} (h0:0≤n) (h1:n < 2 ^ k.bits):k.wrap n = n:=by
 simp only [IntKind.wrap,hk,Bool.false_and,Bool.false_eq_true,if_false]
 exact Int.emod_eq_of_lt h0 h1
theorem wrap_u64 {n:Int} (h0:0≤n) (h1:n < 18446744073709551616):IntKind.u64.wrap n = n:=Vk rfl h0 (by exact h1)
theorem wrap_i64 {n:Int} (h0:-9223372036854775808≤n) (h1:n < 9223372036854775808):IntKind.i64.wrap n = n:=by
 have e1:IntKind.i64.bits = 64:=rfl
 have e2:IntKind.i64.signed = true:=rfl
 simp only [IntKind.wrap,e1,e2,Bool.true_and,decide_eq_true_eq]
 have p64:(2:Int) ^ 64 = 18446744073709551616:=rfl
 have p63:(2:Int) ^ (64 - 1) = 9223372036854775808:=rfl
 rw [p64,p63]
 by_cases hn:0≤n
 ·rw [Int.emod_eq_of_lt hn (by omega),if_neg (by omega)]
 ·have:n % 18446744073709551616 = n + 18446744073709551616:=by omega
  rw [this,if_pos (by omega)]
  omega
end Go.AM
namespace Go.AM
open Go.ChangeShapes Go.WideShapes Go.ChangeAt Go.RowKit
section
variable {H:Type} {enc:TypeId × Value→H} {P:Program} {W:World}
theorem Qv {b t:Nat} (hb:b < W.heap.size) (ht:t ≠ 0):NT (start W) (T0 W.heap.size) t b:=⟨.inr ht,wz W b,hb⟩
theorem Xv {n:Int} (h:(Lit.int .u8 n).wf = true):0≤n∧n < 256:=by
 have:IntKind.u8.min≤n∧n≤IntKind.u8.max:=by simpa [Lit.wf] using h
 have e1:IntKind.u8.min = 0:=rfl
 have e2:IntKind.u8.max = 255:=rfl
 omega
theorem Qw {c:Nat} {l:List UInt8} {ad:Option Addr} {cap:Nat} (hs:Bf c l.length ad cap)
  (hc:∀ a,ad = some a→l.length ≠ 0→a.spot = none∧a.block < W.heap.size∧∀ j b,l[j]? = some b→W.cell? ⟨a.block,a.off + j,none⟩ = some (.int .u8 (b.toNat:Int))) :
  aF (start W) (T0 W.heap.size) (.ro c (.pb l) 1) (.slice ad l.length cap):=by
 simp only [aF,aH,aX,RV]
 refine ⟨ad,cap,rfl,hs,fun a ha hn=>?_⟩
 obtain ⟨h1,h2,h3⟩:=hc a ha hn
 exact ⟨h1,Qv h2 (by omega),by simp only [RP];exact h3⟩
end
end Go.AM
namespace Go.AM
def rt (t:Nat) (p:AV):AV:=ren (fun _ _=>none) (fun _=>t) p
def bk (n t:Nat) (k:Nat):Nat:=if k = n then t else 0
theorem nC {H:Heap} {o:Nat} {ob:Obj} (ho:H[o]? = some (some ob)) (hi:ids ob.p = []):reach H aJ [o] [] = [o]:=by
 show reach H (99998 + 1 + 1) [o] [] = [o]
 simp [reach,ho,hi]
theorem Le {H:Heap} {o o2:Nat} {ob ob2:Obj} (ho:H[o]? = some (some ob)) (hi:ids ob.p = []) (ho2:H[o2]? = some (some ob2)) (hi2:ids ob2.p = []) (hne:o2 ≠ o):reach H aJ [o,o2] [] = [o,o2]:=by
 show reach H (99997 + 1 + 1 + 1) [o,o2] [] = [o,o2]
 simp [reach,ho,hi,ho2,hi2,hne]
theorem sN {p:AV} (h:jQ p = true):ids p = []:=by cases p <;> simp [jQ] at h <;> rfl
section
variable {C:Ctx} {f:Nat} {H:Heap} {T:Cf}
theorem LK {ρ:Nat→Nat→Option (Nat × Nat)} {τ:Nat→Nat} {p:AV} (h:ids p = []):ids (ren ρ τ p) = []:=by
 have h1:ren ρ τ p = ren (fun o g=>some (o,g)) τ p:=iw p (fun o g ho=>by rw [h] at ho;cases ho) (fun _ _=>rfl)
 rw [h1]
 exact (oO p).trans h
where
 oO:(p:AV)→ids (ren (fun o g=>some (o,g)) τ p) = ids p
  | .ptr .. | .sl .. | .map .. | .ro .. | .iQ .. | .top | .bool _ | .int .. | .str _ | .gZ | .jv | .ig | .pn | .pb _ | .pi ..=>rfl
  | .agg p=>by simp only [ren,ids];exact oO p
  | .tup l=>by simp only [ren,ids];exact lG l
  | .fn _ l=>by simp only [ren,ids];exact lG l
  | .pc l=>by simp only [ren,ids];exact lG l
  | .pr _ l=>by simp only [ren,ids];exact lG l
  | .pm l=>by simp only [ren,ids];exact lG l
 lG:(l:List AV)→aT (dN (fun o g=>some (o,g)) τ l) = aT l
  | []=>rfl
  | a :: r=>by simp only [dN,aT];rw [oO a,lG r]
theorem Ev1.box (hT:Below C T) {o g:Nat} {ob ob1:Obj} {xs ys:List AV} {aP:List eU} {fn:Func} {c:Code} {out:Out} {l:List AV} {rest:Heap} {n t:Nat}
  (hF:C.P.funcs[f]? = some fn) (hb:fn.body = some c) (hrw:C.rw f 0 = false) (ho:H[o]? = some (some ob)) (hg:ob.g = g) (hi:ids ob.p = [])
  (hl:aO C f H 1 xs = some (ys,aP)) (hiy:aT ys = []) (hob:aP.all (fun x=>disjoint x.objs [o]) = true) (hn:ys.length + 2 = n) (hng:n < dJ)
  (hj:fK (dI ob) = some t)
  (he:Run C T f 1 c (numbered 0 (coerce C (.ptr 0 0 0 0 :: ys) (aV C f))) [some { ob with p:=rt n ob.p,g:=0,tg:=n }] out)
  (hex:out.ex = .normal∨out.ex = .ret) (hr:bf C out.fr out.H fn.results.toList = some l)
  (hH:out.H = some ob1 :: rest) (Qx:ob1.ids = true) (hi1:ids ob1.p = []) (hv:ids (aW l) = [])
  (hu:∀ k ∈ tags (aW l) ++ dI ob1,k = 0∨k = n) (ht1:ob1.tg = 0∨ob1.tg = n) :
  Ev1 C f (.ptr o 0 0 g :: xs) H (ren (fun _ _=>none) (bk n t) (aW l),upd H o (some { ob1 with p:=ren (fun _ _=>none) (bk n t) ob1.p,g:=g + (if ob1.g = 0 then 0 else 1),tg:=bk n t ob1.tg })):=by
 have hlive:live H o g = some ob:=by simp [live,ho,hg]
 have hat:bD H o = some ob:=by simp [bD,ho]
 have hl':aO C f H 0 (.ptr o 0 0 g :: xs) = some (.ptr o 0 0 g :: ys,⟨[],[]⟩ :: aP):=by
  simp only [aO,hrw]
  simp [fU,eY,tags,hl]
 have hre:reach H aJ (aT (.ptr o 0 0 g :: ys)) [] = [o]:=by
  rw [show aT (.ptr o 0 0 g :: ys) = [o] by simp [aT,ids,hiy]]
  exact nC ho hi
 have hin:dF H [o] o g = some (0,0):=by simp [dF,hlive,idxOf]
 have hlen:=jU hl
 have hn0:0 < n:=by omega
 refine Ev1.of (out:=out) (l:=l) hT hF hb hl' ?_ ?_ hex hr ?_
 ·rw [hre]
  simp only [List.all_cons,Bool.and_eq_true,decide_eq_true_eq,List.length_cons]
  exact ⟨⟨rfl,hob⟩,by omega⟩
 ·rw [hre]
  have e1:dN (dF H [o]) (fun t=>t) (.ptr o 0 0 g :: ys) = .ptr 0 0 0 0 :: ys:=by
   simp only [dN,ren,hin]
   rw [eX ys hiy (fun _ _=>rfl)]
  have e2:([o].map fun o'=>(bD H o').map (bn (dF H [o]) (fun _=>(AV.ptr o 0 0 g :: ys).length + 1) 0)) = [some { ob with p:=rt n ob.p,g:=0,tg:=n }]:=by
   simp only [List.map_cons,List.map_nil,hat,Option.map_some,bn,List.length_cons]
   rw [show ys.length + 1 + 1 = n by omega]
   have e:ren (dF H [o]) (fun _=>n) ob.p = rt n ob.p:=iw ob.p (fun o g h=>by rw [hi] at h;cases h) (fun _ _=>rfl)
   rw [e]
  rw [e1,e2]
  exact he
 ·rw [hre]
  unfold wrap
  have h0:out.H[0]? = some (some ob1):=by rw [hH];rfl
  have zO:bD out.H 0 = some ob1:=by simp [bD,h0]
  have Lh:reach out.H aJ (List.range [o].length ++ ids (aW l)) [] = [0]:=by
   rw [hv]
   exact nC h0 hi1
  have hbt:∀ k,k = 0∨k = n→dY (⟨[],[]⟩ :: aP ++ [⟨[],aG ([o].map (bD H))⟩]) k = some (bk n t k):=by
   rintro k (rfl | rfl)
   ·unfold dY bk
    rw [if_pos rfl,if_neg (by omega)]
   ·unfold dY bk
    rw [if_neg (by omega),if_pos rfl]
    rw [List.cons_append,show k - 1 = (k - 2) + 1 by omega,List.getElem?_cons_succ,List.getElem?_append_right (by omega),show k - 2 - aP.length = 0 by omega]
    simp [aG,hat,hj]
  have hgo:∀ k,k = 0∨k = n→dO (⟨[],[]⟩ :: aP ++ [⟨[],aG ([o].map (bD H))⟩]) k = []:=by
   rintro k (rfl | rfl)
   ·rfl
   ·unfold dO
    rw [if_neg (by omega)]
    rw [List.cons_append,show k - 1 = (k - 2) + 1 by omega,List.getElem?_cons_succ,List.getElem?_append_right (by omega),show k - 2 - aP.length = 0 by omega]
    rfl
  generalize (⟨[],[]⟩ :: aP ++ [⟨[],aG ([o].map (bD H))⟩]:List eU) = L at *
  have hbT:∀ k,k = 0∨k = n→dM L k = bk n t k:=fun k hk=>by unfold dM;rw [hbt k hk];rfl
  simp only [Lh]
  rw [show ([0].filter fun o'=>decide ([o].length≤o')) = [] from rfl]
  have hus:(tags (aW l) ++ aG ((List.range [o].length).map (bD out.H)) ++ aG (([]:List Nat).map (bD out.H))) = tags (aW l) ++ dI ob1:=by
   simp [aG,zO,List.range_succ]
  rw [hus]
  rw [if_pos (List.all_eq_true.2 fun k hk=>by rw [hbt k (hu k hk)];rfl)]
  rw [show (tags (aW l) ++ dI ob1).flatMap (dO L) = [] from List.flatMap_eq_nil_iff.2 fun k hk=>hgo k (hu k hk)]
  simp only [List.filter_nil,strike,List.map_nil,List.append_nil,dH,zO,Option.map_some,Option.some.injEq,Prod.mk.injEq]
  refine ⟨iw _ (fun o g h=>by rw [hv] at h;cases h) (fun k hk=>hbT k (hu k (List.mem_append_left _ hk))),?_⟩
  have hgb:fQ H [o] 0 ob1.g = g + (if ob1.g = 0 then 0 else 1):=by simp [fQ,hat,hg]
  rw [hgb]
  congr 2
  simp only [bn]
  rw [hbT _ ht1]
  congr 1
  refine iw _ (fun o g h=>by rw [hi1] at h;cases h) fun k hk=>?_
  unfold dI at hu
  rw [if_pos Qx] at hu
  exact hbT k (hu k (List.mem_append_right _ hk))
theorem Ev1.aee (hT:Below C T) {o g:Nat} {ob ob1:Obj} {xs ys:List AV} {aP:List eU} {fn:Func} {c:Code} {out:Out} {l:List AV} {rest:Heap} {n t o1 g1:Nat} {ob2:Obj}
  (hF:C.P.funcs[f]? = some fn) (hb:fn.body = some c) (hrw:C.rw f 0 = false) (ho:H[o]? = some (some ob)) (hg:ob.g = g) (hi:ids ob.p = [])
  (hl:aO C f H 1 xs = some (ys,aP)) (hiy:aT ys = []) (hob:aP.all (fun x=>disjoint x.objs [o]) = true) (hn:ys.length + 2 = n) (hng:n < dJ)
  (hj:fK (dI ob) = some t)
  (he:Run C T f 1 c (numbered 0 (coerce C (.ptr 0 0 0 0 :: ys) (aV C f))) [some { ob with p:=rt n ob.p,g:=0,tg:=n }] out)
  (hex:out.ex = .normal∨out.ex = .ret) (hr:bf C out.fr out.H fn.results.toList = some l)
  (hH:out.H = some ob1 :: rest) (Qx:ob1.ids = true) (hi1:ids ob1.p = []) (hv:ids (aW l) = [o1]) (ho1:live out.H o1 g1 = some ob2) (hne:o1 ≠ 0) (aef:ob2.ids = false) (hp2:jQ ob2.p = true) (Xw:ob2.tg = 0)
  (hu:∀ k ∈ tags (aW l) ++ dI ob1,k = 0∨k = n) (ht1:ob1.tg = 0∨ob1.tg = n) :
  Ev1 C f (.ptr o 0 0 g :: xs) H (ren (fun o' g'=>if o' = o1∧g' = g1 then some (H.length,0) else none) (bk n t) (aW l),upd H o (some { ob1 with p:=ren (fun _ _=>none) (bk n t) ob1.p,g:=g + (if ob1.g = 0 then 0 else 1),tg:=bk n t ob1.tg }) ++ [some (AM.fresh ob2)]):=by
 have hlive:live H o g = some ob:=by simp [live,ho,hg]
 have hat:bD H o = some ob:=by simp [bD,ho]
 have hl':aO C f H 0 (.ptr o 0 0 g :: xs) = some (.ptr o 0 0 g :: ys,⟨[],[]⟩ :: aP):=by
  simp only [aO,hrw]
  simp [fU,eY,tags,hl]
 have hre:reach H aJ (aT (.ptr o 0 0 g :: ys)) [] = [o]:=by
  rw [show aT (.ptr o 0 0 g :: ys) = [o] by simp [aT,ids,hiy]]
  exact nC ho hi
 have hin:dF H [o] o g = some (0,0):=by simp [dF,hlive,idxOf]
 have hlen:=jU hl
 have hn0:0 < n:=by omega
 refine Ev1.of (out:=out) (l:=l) hT hF hb hl' ?_ ?_ hex hr ?_
 ·rw [hre]
  simp only [List.all_cons,Bool.and_eq_true,decide_eq_true_eq,List.length_cons]
  exact ⟨⟨rfl,hob⟩,by omega⟩
 ·rw [hre]
  have e1:dN (dF H [o]) (fun t=>t) (.ptr o 0 0 g :: ys) = .ptr 0 0 0 0 :: ys:=by
   simp only [dN,ren,hin]
   rw [eX ys hiy (fun _ _=>rfl)]
  have e2:([o].map fun o'=>(bD H o').map (bn (dF H [o]) (fun _=>(AV.ptr o 0 0 g :: ys).length + 1) 0)) = [some { ob with p:=rt n ob.p,g:=0,tg:=n }]:=by
   simp only [List.map_cons,List.map_nil,hat,Option.map_some,bn,List.length_cons]
   rw [show ys.length + 1 + 1 = n by omega]
   have e:ren (dF H [o]) (fun _=>n) ob.p = rt n ob.p:=iw ob.p (fun o g h=>by rw [hi] at h;cases h) (fun _ _=>rfl)
   rw [e]
  rw [e1,e2]
  exact he
 ·rw [hre]
  unfold wrap
  have h0:out.H[0]? = some (some ob1):=by rw [hH];rfl
  have zO:bD out.H 0 = some ob1:=by simp [bD,h0]
  obtain ⟨h1,h2⟩:=bI.1 ho1
  have Lh:reach out.H aJ (List.range [o].length ++ ids (aW l)) [] = [0,o1]:=by
   rw [hv]
   exact Le h0 hi1 h1 (sN hp2) hne
  have Xx:bD out.H o1 = some ob2:=by simp [bD,h1]
  have hbt:∀ k,k = 0∨k = n→dY (⟨[],[]⟩ :: aP ++ [⟨[],aG ([o].map (bD H))⟩]) k = some (bk n t k):=by
   rintro k (rfl | rfl)
   ·unfold dY bk
    rw [if_pos rfl,if_neg (by omega)]
   ·unfold dY bk
    rw [if_neg (by omega),if_pos rfl]
    rw [List.cons_append,show k - 1 = (k - 2) + 1 by omega,List.getElem?_cons_succ,List.getElem?_append_right (by omega),show k - 2 - aP.length = 0 by omega]
    simp [aG,hat,hj]
  have hgo:∀ k,k = 0∨k = n→dO (⟨[],[]⟩ :: aP ++ [⟨[],aG ([o].map (bD H))⟩]) k = []:=by
   rintro k (rfl | rfl)
   ·rfl
   ·unfold dO
    rw [if_neg (by omega)]
    rw [List.cons_append,show k - 1 = (k - 2) + 1 by omega,List.getElem?_cons_succ,List.getElem?_append_right (by omega),show k - 2 - aP.length = 0 by omega]
    rfl
  generalize (⟨[],[]⟩ :: aP ++ [⟨[],aG ([o].map (bD H))⟩]:List eU) = L at *
  have hbT:∀ k,k = 0∨k = n→dM L k = bk n t k:=fun k hk=>by unfold dM;rw [hbt k hk];rfl
  simp only [Lh]
  rw [show ([0,o1].filter fun o'=>decide ([o].length≤o')) = [o1] by
   simp only [List.length_cons,List.length_nil]
   rw [List.filter_cons_of_neg (by simp),List.filter_cons_of_pos (by simp;omega),List.filter_nil]]
  have hus:(tags (aW l) ++ aG ((List.range [o].length).map (bD out.H)) ++ aG ([o1].map (bD out.H))) = tags (aW l) ++ dI ob1 ++ [0]:=by
   have:dI ob2 = [0]:=by unfold dI;rw [aef,Xw];cases hq:ob2.p <;> simp [hq,jQ] at hp2 <;> simp
   simp [aG,zO,Xx,this,List.range_succ]
  rw [hus]
  have hu2:∀ k ∈ tags (aW l) ++ dI ob1 ++ [0],k = 0∨k = n:=fun k hk=>by
   rcases List.mem_append.1 hk with hk | hk
   ·exact hu k hk
   ·simp at hk;exact .inl hk
  rw [if_pos (List.all_eq_true.2 fun k hk=>by rw [hbt k (hu2 k hk)];rfl)]
  rw [show (tags (aW l) ++ dI ob1 ++ ([0]:List Nat)).flatMap (dO L) = [] from List.flatMap_eq_nil_iff.2 fun k hk=>hgo k (hu2 k hk)]
  simp only [List.filter_nil,strike,List.map_cons,List.map_nil,dH,zO,Xx,Option.map_some,Option.some.injEq,Prod.mk.injEq]
  have Ed:∀ o' g',o' ∈ [o1]→dh H [o] [o1] out.H o' g' = if o' = o1∧g' = g1 then some (H.length,0) else none:=by
   intro o' g' hm
   simp only [List.mem_singleton] at hm
   subst hm
   unfold dh
   by_cases hgg:g' = g1
   ·subst hgg
    rw [ho1]
    have:¬ (o' < [o].length):=by simp;omega
    simp only [if_neg this]
    simp [idxOf]
   ·have:live out.H o' g' = none:=by
     simp only [live,h1]
     rw [if_neg (fun e=>hgg (e.symm.trans h2))]
    rw [this]
    simp [hgg]
  refine ⟨iw _ (fun o' g' h=>Ed o' g' (by rw [← hv];exact h)) (fun k hk=>hbT k (hu k (List.mem_append_left _ hk))),?_⟩
  have hgb:fQ H [o] 0 ob1.g = g + (if ob1.g = 0 then 0 else 1):=by simp [fQ,hat,hg]
  rw [hgb]
  have e2:bn (dh H [o] [o1] out.H) (dM L) 0 ob2 = AM.fresh ob2:=by
   simp only [bn,sJ hp2,AM.fresh,Xw,hbT 0 (.inl rfl)]
   unfold bk;rw [if_neg (by omega)]
  rw [e2]
  congr 3
  simp only [bn]
  rw [hbT _ ht1]
  congr 1
  refine iw _ (fun o g h=>by rw [hi1] at h;cases h) fun k hk=>?_
  unfold dI at hu
  rw [if_pos Qx] at hu
  exact hbT k (hu k (List.mem_append_right _ hk))
end
end Go.AM
namespace Go.AM
open Classical in
noncomputable def evT (C:Ctx):Cf:=fun f xs H=>if h:∃ r,Ev1 C f xs H r then some (Classical.choose h) else none
theorem Ev1.one {C:Ctx} {f:Nat} {xs:List AV} {H:Heap} {r r2:AV × Heap} (h:Ev1 C f xs H r) (h2:Ev1 C f xs H r2):r = r2:=by
 obtain ⟨n,h⟩:=h
 obtain ⟨n2,h2⟩:=h2
 have e:=h (max n n2) (by omega)
 rw [h2 (max n n2) (by omega)] at e
 exact (Option.some.inj e).symm
theorem bJ (C:Ctx):Below C (evT C):=by
 intro f xs H r h
 unfold evT at h
 split at h
 ·rename_i hx
  rw [← Option.some.inj h]
  exact Classical.choose_spec hx
 ·cases h
theorem eH {C:Ctx} {f:Nat} {xs:List AV} {H:Heap} {r:AV × Heap} (h:Ev1 C f xs H r):evT C f xs H = some r:=by
 have hx:∃ r,Ev1 C f xs H r:=⟨r,h⟩
 unfold evT
 rw [dif_pos hx]
 exact congrArg some (Ev1.one (Classical.choose_spec hx) h)
section
variable {C:Ctx} {f:Nat} {H:Heap}
theorem Ov {aP:List eU} {v:AV} {H1:Heap} {o g:Nat} {ob:Obj} (hi:ids v = [o]) (ht:tags v = []) (hl:live H1 o g = some ob) (hob:ob.ids = false) (hp:ids ob.p = []) (hp2:tags ob.p = []) (hto:dI ob = [0]) (htg:ob.tg = 0) :
  wrap H [] aP v H1 = some (ren (fun o' g'=>if o' = o∧g' = g then some (H.length,0) else none) (fun t=>t) v,H ++ [some (fresh ob)]):=by
 obtain ⟨h1,h2⟩:=bI.1 hl
 unfold wrap
 have hat:bD H1 o = some ob:=by simp [bD,h1]
 have hρ:ren (dh H [] [o] H1) (dM aP) v = ren (fun o' g'=>if o' = o∧g' = g then some (H.length,0) else none) (fun t=>t) v:=by
  have key:∀ o' g',o' ∈ ids v→dh H [] [o] H1 o' g' = if o' = o∧g' = g then some (H.length,0) else none:=by
   intro o' g' hm
   rw [hi] at hm
   simp only [List.mem_singleton] at hm
   subst hm
   unfold dh
   by_cases hg:g' = g
   ·subst hg
    rw [hl]
    simp [idxOf]
   ·have:live H1 o' g' = none:=by
     simp only [live,h1]
     rw [if_neg (fun e=>hg (e.symm.trans h2))]
    rw [this]
    simp [hg]
  exact iw v (fun o' g' hm=>key o' g' hm) (by simp [ht])
 simp only [List.length_nil,List.range_zero,List.nil_append,hi,Fa h1 hob,ht,aG,List.append_nil,List.map_nil,hat,hto,List.map_cons,Nat.zero_le,decide_true,List.filter_cons_of_pos,List.filter_nil,strike,dH]
 have h0:dY aP 0 = some 0:=rfl
 simp only [List.all_cons,List.all_nil,h0,Option.isSome_some,Bool.and_true,if_true,List.flatMap_cons,List.flatMap_nil,dO,List.append_nil,List.filter_nil,strike,Option.map_some,Option.some.injEq,Prod.mk.injEq]
 refine ⟨hρ,?_⟩
 have hr:ren (dh H [] [o] H1) (dM aP) ob.p = ob.p:=je ob.p hp (fun t h=>by rw [hp2] at h;cases h)
 simp only [bn,hr,AM.fresh,htg]
 rfl
variable {T:Cf}
theorem Ev1.Vl (hT:Below C T) {args:List AV} {fn:Func} {c:Code} {as:List AV} {aP:List eU} {out:Out} {l:List AV} {o g:Nat} {ob:Obj}
  (hF:C.P.funcs[f]? = some fn) (hb:fn.body = some c) (hl:aO C f H 0 args = some (as,aP)) (hi:aT as = []) (hn:as.length + 1 < dJ)
  (he:Run C T f 0 c (numbered 0 (coerce C as (aV C f))) [] out) (hex:out.ex = .normal∨out.ex = .ret) (hr:bf C out.fr out.H fn.results.toList = some l)
  (hv:ids (aW l) = [o]) (ht:tags (aW l) = []) (ho:live out.H o g = some ob) (hob:ob.ids = false) (hp:ids ob.p = []) (hp2:tags ob.p = []) (hto:dI ob = [0]) (htg:ob.tg = 0) :
  Ev1 C f args H (ren (fun o' g'=>if o' = o∧g' = g then some (H.length,0) else none) (fun t=>t) (aW l),H ++ [some (AM.fresh ob)]):=by
 refine Ev1.of hT hF hb hl ?_ ?_ hex hr ?_
 ·rw [hi,fZ]
  simp only [Bool.and_eq_true,decide_eq_true_eq]
  exact ⟨List.all_eq_true.2 fun x _=>lK x.objs,hn⟩
 ·rw [hi,fZ,eX as hi (fun _ _=>rfl)]
  exact he
 ·rw [hi,fZ]
  exact Ov hv ht ho hob hp hp2 hto htg
end
structure Holds (p:AV) (ob:Obj):Prop where
 p:ob.p = p
 g:ob.g = 0
 row:ob.row = true
 ids:ob.ids = false
 tg:ob.tg = 0
theorem Ev1.tried {C:Ctx} {T:Cf} (hT:Below C T) {n f:Nat} {args:List AV} {v:AV} {N:Heap} (h:xO C T n ⟨f,args,v,N⟩ = true) (H:Heap):Ev1 C f args H (dX H.length v,H ++ kU H.length N):=by
 have:=ku.cons hT ku.nil h
 obtain ⟨h1,h2⟩:=this _ (List.mem_singleton.2 rfl)
 exact Ev1.frame h1 h2 H
theorem Ev1.Vm {C:Ctx} {T:Cf} (hT:Below C T) {n f:Nat} {args:List AV} {v:AV} (h:xO C T n ⟨f,args,v,[]⟩ = true) (hv:wQ v = true) (H:Heap):Ev1 C f args H (v,H):=by
 have:=Ev1.tried hT h H
 rw [show dX H.length v = v from je v (JA hv).1 (fun _ _=>rfl)] at this
 simpa [kU] using this
theorem Ev1.each {C:Ctx} {T:Cf} (hT:Below C T) {n f N:Nat} {a v:Nat→AV} (h:(List.range N).all (fun k=>xO C T n ⟨f,[a k],v k,[]⟩) = true) (hv:∀ k,wQ (v k) = true) {k:Nat} (hk:k < N) (H:Heap):Ev1 C f [a k] H (v k,H) :=
 Ev1.Vm hT (List.all_eq_true.1 h k (List.mem_range.2 hk)) (hv k) H
theorem Fp (H:Heap) (x:Option Obj):(H ++ [x])[List.length H]? = some x:=by simp
theorem A8 (H:Heap) (x y:Option Obj):(H ++ [x]).set (List.length H) y = H ++ [y]:=by simp
def au (Q:Out→Prop) (C:Ctx) (T:Cf) (f m:Nat) (c:Code) (fr:Frame) (H:Heap):Prop:=∃ o,Q o∧Run C T f m c fr H o
def Goes (P:Frame→Heap→Prop) (o:Out):Prop:=o.ex = .normal∧P o.fr o.H
def Exits (id:Nat) (P:Frame→Heap→Prop) (o:Out):Prop:=o.ex = .exit id∧P o.fr o.H
def nY (P:Frame→Heap→Prop) (o:Out):Prop:=o.ex = .ret∧P o.fr o.H
section
variable {Q:Out→Prop} {C:Ctx} {T:Cf} {f m:Nat} {fr:Frame} {H:Heap}
theorem au.of {c:Code} {o:Out} (h:Run C T f m c fr H o) (hq:Q o):au Q C T f m c fr H:=⟨o,hq,h⟩
theorem au.seq {a b:Code} {fr':Frame} {H':Heap} (h:Run C T f m a fr H ⟨.normal,fr',H'⟩) (h':au Q C T f m b fr' H'):au Q C T f m (.seq a b) fr H:=by
 obtain ⟨o,hq,ho⟩:=h'
 exact ⟨o,hq,Run.seq h ho⟩
theorem au.andThen {a b:Code} {P:Frame→Heap→Prop} (h:au (Goes P) C T f m a fr H) (h':∀ fr' H',P fr' H'→au Q C T f m b fr' H'):au Q C T f m (.seq a b) fr H:=by
 obtain ⟨⟨ex,fr1,H1⟩,⟨he,hp⟩,ho⟩:=h
 simp only at he hp
 subst he
 exact au.seq ho (h' _ _ hp)
theorem au.block {id:Nat} {c:Code} {P:Frame→Heap→Prop} (h:au (Exits id P) C T f m c fr H):au (Goes P) C T f m (.block id c) fr H:=by
 obtain ⟨⟨ex,fr1,H1⟩,⟨he,hp⟩,ho⟩:=h
 simp only at he hp
 subst he
 exact ⟨_,⟨rfl,hp⟩,Run.fV ho⟩
theorem au.assoc {a b c:Code} (h:au Q C T f m (.seq a (.seq b c)) fr H):au Q C T f m (.seq (.seq a b) c) fr H:=by
 obtain ⟨o,hq,k,hk⟩:=h
 refine ⟨o,hq,k,?_⟩
 simp only [exec] at hk ⊢
 rw [← hk]
 cases ha:exec C T f m k a fr H with
 | none=>rfl
 | some r =>
  obtain ⟨ex,fr',H'⟩:=r
  cases ex with
  | normal=>rfl
  | exit id=>rfl
  | ret=>rfl
theorem au.Eh {id:Nat} {c b:Code} {P:Frame→Heap→Prop} (h:au (fun o=>Exits id P o∨(o.ex = .ret∧Q o)) C T f m c fr H) (h':∀ fr' H',P fr' H'→au Q C T f m b fr' H'):au Q C T f m (.seq (.block id c) b) fr H:=by
 obtain ⟨⟨ex,fr1,H1⟩,hq,ho⟩:=h
 rcases hq with ⟨he,hp⟩ | ⟨he,hq⟩
 ·simp only at he hp
  subst he
  exact au.seq (Run.fV ho) (h' _ _ hp)
 ·simp only at he
  subst he
  exact ⟨_,hq,Run.bH (Run.block ho (by simp)) (by simp)⟩
theorem au.loop {c:Code} {σ:Type} (I:σ→Prop) (fr:σ→Frame) (H:σ→Heap) (μ:σ→Nat)
  (step:∀ s,I s→(∃ s',I s'∧Run C T f m c (fr s) (H s) ⟨.normal,fr s',H s'⟩∧μ s' < μ s)∨(∃ o,Q o∧o.ex ≠ .normal∧Run C T f m c (fr s) (H s) o)) (s:σ) (hs:I s) :
  au Q C T f m (.loop c) (fr s) (H s):=by
 generalize hn:μ s = n
 induction n using Nat.strongRecOn generalizing s with
 | _ n ih =>
  rcases step s hs with ⟨s',h0,h1,h3⟩ | ⟨o,hq,h1,h2⟩
  ·obtain ⟨o,hq,ho⟩:=ih (μ s') (by omega) s' h0 rfl
   exact ⟨o,hq,Run.zV h1 ho⟩
  ·exact ⟨o,hq,Run.Dv h2 h1⟩
end
end Go.AM
namespace Go.AM
def PB (p:AV) (l:List UInt8):Prop:=p = .pb l∨(p = .pn∧l = [])
structure Rw (p:AV) (g:Nat) (ob:Obj):Prop where
 p:ob.p = p
 g:ob.g = g
 row:ob.row = true
 ids:ob.ids = false
 tg:ob.tg = 0
def Byt (H:Heap) (a:AV) (l:List UInt8):Prop :=
 ∃ c p,PB p l∧(c = 0→l = [])∧∀ t,∃ x,fU H t a = some (.ro c p t,x)
theorem PB.aj {p:AV} {l:List UInt8} (h:PB p l):aj p = l.length:=by
 rcases h with rfl | ⟨rfl,rfl⟩ <;> rfl
theorem PB.ids {p:AV} {l:List UInt8} (h:PB p l):ids p = []:=by
 rcases h with rfl | ⟨rfl,rfl⟩ <;> rfl
theorem Byt.ro {H:Heap} {c t:Nat} {p:AV} {l:List UInt8} (h:PB p l) (hc:c = 0→l = []):Byt H (.ro c p t) l :=
 ⟨c,p,h,hc,fun _=>⟨⟨[],[t]⟩,rfl⟩⟩
theorem Byt.nil {H:Heap}:Byt H (.ro 0 .pn 0) []:=Byt.ro (.inr ⟨rfl,rfl⟩) (fun _=>rfl)
theorem Byt.sl {H:Heap} {o off len g:Nat} {ob:Obj} {m l:List UInt8} (ho:H[o]? = some (some ob)) (h:Rw (.pb m) g ob) (hl:(m.drop off).take len = l) (hle:off + len≤m.length):Byt H (.sl o off len g) l:=by
 have hlive:live H o g = some ob:=by simp [live,ho,h.g]
 refine ⟨if ob.z = 0∧AM.aj ob.p = 0 then 0 else 2,.pb l,.inl rfl,fun h0=>?_,fun t=>⟨⟨[o],[ob.tg]⟩,?_⟩⟩
 ·split at h0
  ·rename_i hz
   have hm:m.length = 0:=by have:=hz.2;rw [h.p] at this;exact this
   have:m = []:=List.eq_nil_of_length_eq_zero hm
   subst this
   rw [← hl];simp
  ·cases h0
 ·simp only [fU,eY,hlive,h.ids,h.p,jo]
  rw [if_pos hle,hl]
  rfl
theorem Byt.whole {H:Heap} {o g:Nat} {ob:Obj} {l:List UInt8} (ho:H[o]? = some (some ob)) (h:Rw (.pb l) g ob):Byt H (.sl o 0 l.length g) l :=
 Byt.sl ho h (by simp) (by omega)
section
variable {C:Ctx} {f:Nat} {H:Heap}
theorem Dz {i:Nat} {a:AV} {l:List UInt8} {r as:List AV} {xs:List eU} (hrw:C.rw f i = false) (h:Byt H a l) (hr:aO C f H (i + 1) r = some (as,xs)) :
  ∃ c p x,PB p l∧(c = 0→l = [])∧aO C f H i (a :: r) = some (.ro c p (i + 1) :: as,x :: xs):=by
 obtain ⟨c,p,hp,hc,hl⟩:=h
 obtain ⟨x,hx⟩:=hl (i + 1)
 exact ⟨c,p,x,hp,hc,by simp only [aO,hrw,hx,hr]⟩
theorem zq {T e:Nat} (hT:und C T = .slice e) (he:und C e = .int .u8) (hs:sizeT C e = 1) (hb:bQ C e = 1) (hz:bY C e = true) {o g:Nat} {ob:Obj} {l m:List UInt8} {src:AV}
  (ho:H[o]? = some (some ob)) (h:Rw (.pb l) g ob) (hsrc:kD H src = some (.pb m,0)∨(kD H src = some (.pn,0)∧m = [])) (hn:l.length + m.length≤100000000) :
  ∃ ob',Rw (.pb (l ++ m)) (g + 1) ob'∧dV C H T (.sl o 0 l.length g) src = some (.sl o 0 (l.length + m.length) (g + 1),upd H o (some ob')):=by
 have hlive:live H o g = some ob:=by simp [live,ho,h.g]
 have hroom:ji C e (l.length + m.length) = true:=by simp [ji,hb];omega
 obtain ⟨p,hp1,hp2⟩:∃ p,kD H src = some (p,0)∧PB p m:=by
  rcases hsrc with h1 | ⟨h1,h2⟩
  ·exact ⟨_,h1,.inl rfl⟩
  ·exact ⟨_,h1,.inr ⟨rfl,h2⟩⟩
 have hpl:=hp2.aj
 have hpa:tJ (.pb l) p = some (.pb (l ++ m)):=by
  rcases hp2 with rfl | ⟨rfl,rfl⟩
  ·rfl
  ·simp [tJ]
 refine ⟨{ ob with p:=.pb (l ++ m),g:=g + 1,cap:=(match ob.cap with | some c=>if 0 + l.length + AM.aj p≤c then some (c - 0) else none | none=>none),z:=(if AM.aj ob.p = 0 then ob.z else 1),tg:=0 },⟨rfl,rfl,h.row,h.ids,rfl⟩,?_⟩
 unfold dV
 simp only [hT,hs,hz,hp1,hlive,h.row,h.ids,h.p,h.tg]
 simp only [show ¬ ((1:Nat) = 0∨true = false) by simp,if_false]
 have hc:True∧True∧0 + l.length = AM.aj (.pb l)∧aQ (.pb l) = 1∧ji C e (l.length + AM.aj p) = true:=⟨trivial,trivial,by simp [AM.aj],rfl,by rw [hpl];exact hroom⟩
 rw [if_pos hc]
 simp only [jo,Nat.zero_add,Nat.le_refl,if_true,List.drop_zero,List.take_length,hpa,gu,aQ]
 simp [hpl]
 rfl
end
section
variable {C:Ctx} {f:Nat} {H:Heap} {T:Cf}
theorem kY {l:List AV} (h:gG l = true):ids (aW l) = aT l:=by
 unfold aW
 split
 ·simp [aT]
 ·rw [if_pos h];rfl
theorem jP {l:List AV} (h:gG l = true):tags (aW l) = bW l:=by
 unfold aW
 split
 ·simp [bW]
 ·rw [if_pos h];rfl
theorem sQ {ρ:Nat→Nat→Option (Nat × Nat)} {τ:Nat→Nat} {v w:AV} {rest:List AV} (hv:ren ρ τ v = w) (hr:dN ρ τ rest = rest) (h:gG (v :: rest) = true) (h2:gG (w :: rest) = true):ren ρ τ (aW (v :: rest)) = aW (w :: rest):=by
 cases rest with
 | nil=>exact hv
 | cons a r =>
  show ren ρ τ (if gG (v :: a :: r) then .tup (v :: a :: r) else .top) = (if gG (w :: a :: r) then .tup (w :: a :: r) else .top)
  rw [if_pos h,if_pos h2]
  show AV.tup (ren ρ τ v :: dN ρ τ (a :: r)) = _
  rw [hv,hr]
theorem Ev1.Fq (hT:Below C T) {args xs:List AV} {aP:List eU} {fn:Func} {c:Code} {n:Nat} {l:List UInt8} {rest:List AV}
  (hF:C.P.funcs[f]? = some fn) (hb:fn.body = some c) (hl:aO C f H 0 args = some (xs,aP)) (hi:aT xs = []) (hn:xs.length + 1 < dJ) (hri:aT rest = []) (hrt:bW rest = []) (hnt:gG rest = true)
  (h:au (nY fun fr H1=>∃ o g ob,bf C fr H1 fn.results.toList = some (.sl o 0 n g :: rest)∧H1[o]? = some (some ob)∧Rw (.pb l) g ob) C T f 0 c (numbered 0 (coerce C xs (aV C f))) []) :
  ∃ ob',Rw (.pb l) 0 ob'∧Ev1 C f args H (aW (.sl H.length 0 n 0 :: rest),H ++ [some ob']):=by
 obtain ⟨⟨ex,fr,H1⟩,⟨he,o,g,ob,hr,ho,hw⟩,hrun⟩:=h
 simp only at he hr ho
 subst he
 refine ⟨AM.fresh ob,⟨hw.p,rfl,hw.row,hw.ids,rfl⟩,?_⟩
 have:=Ev1.fresh (H:=H) hT hF hb hl hi hn hrun (.inr rfl) hr (o:=o) (g:=g) (ob:=ob) (by rw [kY (l:=.sl o 0 n g :: rest) hnt];simp [aT,ids,hri]) (by rw [jP (l:=.sl o 0 n g :: rest) hnt];simp [bW,tags,hrt]) (by simp [live,ho,hw.g]) hw.ids (by rw [hw.p];rfl) hw.tg
 rw [sQ (w:=.sl H.length 0 n 0) (by simp [ren]) (eX rest hri (fun t ht=>rfl)) (by exact hnt) (by exact hnt)] at this
 exact this
theorem Ev1.pR (hT:Below C T) {args xs:List AV} {aP:List eU} {fn:Func} {c:Code} {l:List AV}
  (hF:C.P.funcs[f]? = some fn) (hb:fn.body = some c) (hl:aO C f H 0 args = some (xs,aP)) (hi:aT xs = []) (hn:xs.length + 1 < dJ) (hri:aT l = []) (hrt:bW l = []) (hnt:gG l = true)
  (h:au (nY fun fr H1=>bf C fr H1 fn.results.toList = some l) C T f 0 c (numbered 0 (coerce C xs (aV C f))) []):Ev1 C f args H (aW l,H):=by
 obtain ⟨⟨ex,fr,H1⟩,⟨he,hr⟩,hrun⟩:=h
 simp only at he hr
 subst he
 exact Ev1.plain hT hF hb hl hi hn hrun (.inr rfl) hr (by rw [kY hnt];exact hri) (by rw [jP hnt];exact hrt)
end
section
variable {C:Ctx} {T:Cf} {f m:Nat} {fr fr' fr2:Frame} {H H':Heap} {ms:List Mark}
theorem Run.dy {id:Nat} {ops:Array Oper} {l:List Nat} (hdy:C.dy f id = true) (hk:C.keep f id = some l) (hn:C.norm f id = false)
  (h:lI C T (gU C f) ops ops.toList fr H = some (fr',H',ms)) (hm:vU (Region.before ops) ms = true) (hf:bZ l fr' = fr2):Run C T f m (.region id ops true) fr H ⟨.normal,fr2,H'⟩:=by
 refine ⟨0,?_⟩
 simp only [exec,hdy,Bool.true_and,Bool.true_or,if_true,h,hm,iR,hk,hn,hf]
 rfl
end
section
variable {C:Ctx} {f:Nat} {H:Heap} {T:Cf}
end
end Go.AM
namespace Go.AM
open Go.ChangeShapes Go.WideShapes Go.ChangeAt Go.RowKit
section
variable {H:Type} {enc:TypeId × Value→H} {P:Program} {W:World}
theorem Lj {base:Nat} {t e:TypeId} {v:Value} {d:DataW H} {ps:List MemPlace} (ht:P.underlying t = some (.slice e)) (he:P.underlying e = some (.int .u8)) (hc:P.cellsOf e = 1)
  (hval:Value.okWide P W .any base t v) (hd:DataW.Trod enc P W 0 (fun _=>true) true t v d ps) :
  ∃ (c:Nat) (l:List UInt8),(c = 0→l = [])∧l.length≤maxLen∧aF (start W) (T0 W.heap.size) (.ro c (.pb l) 1) v:=by
 obtain ⟨a0,len0,cap0,rfl⟩:=okWide_slice ht hval
 obtain ⟨fuel,hf⟩:=hd
 rcases Go.ChangeShapes.open_ints ht he hc hf with ⟨hcs,_⟩ | ⟨a,len,cap,zs,hcs,_,hlc,hcm,hzl,_,hcell,hwf⟩
 ·simp [Value.cells] at hcs
  obtain ⟨rfl,rfl,rfl⟩:=hcs
  exact ⟨0,[],fun _=>rfl,by simp,Qw (l:=[]) ⟨Nat.le_refl _,fun _=>⟨rfl,rfl⟩,fun h=>absurd rfl h,fun h=>by simp at h⟩ (fun a ha=>by cases ha)⟩
 ·simp [Value.cells] at hcs
  obtain ⟨rfl,rfl,rfl⟩:=hcs
  simp only [if_true] at hzl
  have hlen:((zs.take len0).map fun n=>UInt8.ofNat n.toNat).length = len0:=by simp;omega
  refine ⟨2,((zs.take len0).map fun n=>UInt8.ofNat n.toNat),(fun h=>by cases h),by rw [hlen];omega,?_⟩
  have:=Qw (W:=W) (c:=2) (l:=(zs.take len0).map fun n=>UInt8.ofNat n.toNat) (ad:=some a) (cap:=cap0) ⟨by rw [hlen];exact hlc,fun h=>by simp at h,fun _=>rfl,fun h=>by simp at h⟩ (by
   intro a' ha' hn
   simp only [Option.some.injEq] at ha'
   subst ha'
   rw [hlen] at hn
   have h0:=hcell 0 (by omega)
   have hsp:a.spot = none:=by
    have:=World.cell?_spot h0
    simpa [Addr.add] using this
   obtain ⟨b,off,spot⟩:=a
   simp only at hsp
   subst hsp
   refine ⟨rfl,?_,fun j x hx=>?_⟩
   ·rw [add_plain] at h0
    exact block_lt_of_cell h0
   ·rw [List.getElem?_map] at hx
    cases hz:(zs.take len0)[j]? with
    | none=>rw [hz] at hx;cases hx
    | some z =>
     rw [hz] at hx
     simp only [Option.map_some,Option.some.injEq] at hx
     have hjl:j < len0:=by
      have:=(List.getElem?_eq_some_iff.1 hz).1
      simp at this
      omega
     rw [List.getElem?_take_of_lt hjl] at hz
     have Xy:=List.mem_of_getElem? hz
     obtain ⟨q1,q2⟩:=Xv (hwf z Xy)
     have:=hcell j (by omega)
     rw [add_plain] at this
     rw [this,List.getD_eq_getElem?_getD,hz,Option.getD_some,← hx]
     have:((UInt8.ofNat z.toNat).toNat:Int) = z:=by
      rw [UInt8.toNat_ofNat',Nat.mod_eq_of_lt (by simp;omega)]
      omega
     rw [this])
  rw [hlen] at this
  exact this
end
end Go.AM
namespace Go.AM
section
variable {C:Ctx} {f:Nat} {H:Heap} {T:Cf}
theorem AL {o off len g i:Nat} {xs ys:List AV} {aP:List eU} (hrw:C.rw f i = true) (hl:aO C f H (i + 1) xs = some (ys,aP)):aO C f H i (.sl o off len g :: xs) = some (.sl o off len g :: ys,⟨[],[]⟩ :: aP):=by
 simp only [aO,hrw,hl]
theorem Ev1.rw1 (hT:Below C T) {o off len g:Nat} {ob:Obj} {xs ys:List AV} {aP:List eU} {fn:Func} {c:Code} {out:Out} {l:List AV} {rest:Heap} {n:Nat}
  (hF:C.P.funcs[f]? = some fn) (hb:fn.body = some c) (hrw:C.rw f 0 = true) (ho:H[o]? = some (some ob)) (hg:ob.g = g) (hid:ob.ids = false) (hp:jQ ob.p = true) (htg:ob.tg = 0)
  (hl:aO C f H 1 xs = some (ys,aP)) (hiy:aT ys = []) (hob:aP.all (fun x=>disjoint x.objs [o]) = true) (hn:ys.length + 2 = n) (hng:n < dJ)
  (he:Run C T f 1 c (numbered 0 (coerce C (.sl 0 off len 0 :: ys) (aV C f))) [some { ob with g:=0,tg:=n }] out)
  (hex:out.ex = .normal∨out.ex = .ret) (hr:bf C out.fr out.H fn.results.toList = some l)
  (hH:out.H = some { ob with g:=0,tg:=n } :: rest) (hv:ids (aW l) = []) (htv:tags (aW l) = []) :
  Ev1 C f (.sl o off len g :: xs) H (aW l,H):=by
 have hi:ids ob.p = []:=sN hp
 have Ot:∀ (ρ:Nat→Nat→Option (Nat × Nat)) (τ:Nat→Nat),ren ρ τ ob.p = ob.p:=by
  intro ρ τ
  cases hpp:ob.p <;> rw [hpp] at hp <;> simp [jQ] at hp <;> rfl
 have hlive:live H o g = some ob:=by simp [live,ho,hg]
 have hat:bD H o = some ob:=by simp [bD,ho]
 have hl':=AL (o:=o) (off:=off) (len:=len) (g:=g) hrw hl
 have hre:reach H aJ (aT (.sl o off len g :: ys)) [] = [o]:=by
  rw [show aT (.sl o off len g :: ys) = [o] by simp [aT,ids,hiy]]
  exact nC ho hi
 have hin:dF H [o] o g = some (0,0):=by simp [dF,hlive,idxOf]
 have hlen:=jU hl
 have hn0:0 < n:=by omega
 have hto:dI ob = [0]:=by
  unfold dI
  rw [hid,htg]
  cases hpp:ob.p <;> rw [hpp] at hp <;> simp [jQ] at hp <;> rfl
 have Vo:dI { ob with g:=0,tg:=n } = [n]:=by
  unfold dI
  simp only [hid]
  cases hpp:ob.p <;> rw [hpp] at hp <;> simp [jQ] at hp <;> rfl
 refine Ev1.of (out:=out) (l:=l) hT hF hb hl' ?_ ?_ hex hr ?_
 ·rw [hre]
  simp only [List.all_cons,Bool.and_eq_true,decide_eq_true_eq,List.length_cons]
  exact ⟨⟨rfl,hob⟩,by omega⟩
 ·rw [hre]
  have e1:dN (dF H [o]) (fun t=>t) (.sl o off len g :: ys) = .sl 0 off len 0 :: ys:=by
   simp only [dN,ren,hin]
   rw [eX ys hiy (fun _ _=>rfl)]
  have e2:([o].map fun o'=>(bD H o').map (bn (dF H [o]) (fun _=>(AV.sl o off len g :: ys).length + 1) 0)) = [some { ob with g:=0,tg:=n }]:=by
   simp only [List.map_cons,List.map_nil,hat,Option.map_some,bn,List.length_cons]
   rw [show ys.length + 1 + 1 = n by omega,Ot]
  rw [e1,e2]
  exact he
 ·rw [hre]
  unfold wrap
  have h0:out.H[0]? = some (some { ob with g:=0,tg:=n }):=by rw [hH];rfl
  have zO:bD out.H 0 = some { ob with g:=0,tg:=n }:=by simp [bD,h0]
  have Lh:reach out.H aJ (List.range [o].length ++ ids (aW l)) [] = [0]:=by
   rw [hv]
   exact nC h0 hi
  have hbt:dY (⟨[],[]⟩ :: aP ++ [⟨[],aG ([o].map (bD H))⟩]) n = some 0:=by
   unfold dY
   rw [if_neg (by omega)]
   rw [List.cons_append,show n - 1 = (n - 2) + 1 by omega,List.getElem?_cons_succ,List.getElem?_append_right (by omega),show n - 2 - aP.length = 0 by omega]
   simp [aG,hat,hto,fK,gu]
  have hgo:dO (⟨[],[]⟩ :: aP ++ [⟨[],aG ([o].map (bD H))⟩]) n = []:=by
   unfold dO
   rw [if_neg (by omega)]
   rw [List.cons_append,show n - 1 = (n - 2) + 1 by omega,List.getElem?_cons_succ,List.getElem?_append_right (by omega),show n - 2 - aP.length = 0 by omega]
   rfl
  generalize (⟨[],[]⟩ :: aP ++ [⟨[],aG ([o].map (bD H))⟩]:List eU) = L at *
  have hbT:dM L n = 0:=by unfold dM;rw [hbt];rfl
  simp only [Lh]
  rw [show ([0].filter fun o'=>decide ([o].length≤o')) = [] from rfl]
  have hus:(tags (aW l) ++ aG ((List.range [o].length).map (bD out.H)) ++ aG (([]:List Nat).map (bD out.H))) = [n]:=by
   simp [aG,zO,List.range_succ,htv,Vo]
  rw [hus]
  rw [if_pos (by simp [hbt])]
  rw [show [n].flatMap (dO L) = [] by simp [hgo]]
  simp only [List.filter_nil,strike,List.map_nil,List.append_nil,dH,zO,Option.map_some,Option.some.injEq,Prod.mk.injEq]
  have hgb:fQ H [o] 0 0 = g:=by simp [fQ,hat,hg]
  refine ⟨je _ hv (fun k hk=>by rw [htv] at hk;cases hk),?_⟩
  rw [hgb]
  simp only [bn,Ot,hbT]
  rw [show ({ p:=ob.p,g:=g,cap:=ob.cap,z:=ob.z,row:=ob.row,ids:=ob.ids,tg:=0 }:Obj) = ob by cases ob;simp only at hg htg;subst hg htg;rfl]
  unfold upd
  obtain ⟨h1,h2⟩:=List.getElem?_eq_some_iff.1 ho
  exact List.ext_getElem? fun i=>by
   by_cases h:i = o
   ·subst h;rw [List.getElem?_set_self h1,ho]
   ·rw [List.getElem?_set_ne (fun e=>h e.symm)]
theorem Byt.part {o off len g:Nat} {ob:Obj} {m l:List UInt8} (ho:H[o]? = some (some ob)) (hg:ob.g = g) (hp:ob.p = .pb m) (hi:ob.ids = false) (hl:(m.drop off).take len = l) (hle:off + len≤m.length):Byt H (.sl o off len g) l:=by
 have hlive:live H o g = some ob:=by simp [live,ho,hg]
 refine ⟨if ob.z = 0∧AM.aj ob.p = 0 then 0 else 2,.pb l,.inl rfl,fun h0=>?_,fun t=>⟨⟨[o],[ob.tg]⟩,?_⟩⟩
 ·split at h0
  ·rename_i hz
   have hm:m.length = 0:=by have:=hz.2;rw [hp] at this;exact this
   have:m = []:=List.eq_nil_of_length_eq_zero hm
   subst this
   rw [← hl];simp
  ·cases h0
 ·simp only [fU,eY,hlive,hi,hp,jo]
  rw [if_pos hle,hl]
  rfl
theorem MZ {T e:Nat} (hT:und C T = .slice e) (he:und C e = .int .u8) (hs:sizeT C e = 1) (hb:bQ C e = 1) (hz:bY C e = true) {o g k:Nat} {ob:Obj} {l m:List UInt8} {src:AV}
  (ho:H[o]? = some (some ob)) (h:Rw (.pb l) g ob) (hk:ob.cap = some k) (hkl:l.length + m.length≤k) (hsrc:kD H src = some (.pb m,0)∨(kD H src = some (.pn,0)∧m = [])) (hn:l.length + m.length≤100000000) :
  ∃ ob',Rw (.pb (l ++ m)) (g + 1) ob'∧ob'.cap = some k∧dV C H T (.sl o 0 l.length g) src = some (.sl o 0 (l.length + m.length) (g + 1),upd H o (some ob')):=by
 have hlive:live H o g = some ob:=by simp [live,ho,h.g]
 have hroom:ji C e (l.length + m.length) = true:=by simp [ji,hb];omega
 obtain ⟨p,hp1,hp2⟩:∃ p,kD H src = some (p,0)∧PB p m:=by
  rcases hsrc with h1 | ⟨h1,h2⟩
  ·exact ⟨_,h1,.inl rfl⟩
  ·exact ⟨_,h1,.inr ⟨rfl,h2⟩⟩
 have hpl:=hp2.aj
 have hpa:tJ (.pb l) p = some (.pb (l ++ m)):=by
  rcases hp2 with rfl | ⟨rfl,rfl⟩
  ·rfl
  ·simp [tJ]
 refine ⟨{ ob with p:=.pb (l ++ m),g:=g + 1,cap:=(match ob.cap with | some c=>if 0 + l.length + AM.aj p≤c then some (c - 0) else none | none=>none),z:=(if AM.aj ob.p = 0 then ob.z else 1),tg:=0 },⟨rfl,rfl,h.row,h.ids,rfl⟩,?_,?_⟩
 ·simp only [hk]
  rw [if_pos (by omega)]
  rfl
 unfold dV
 simp only [hT,hs,hz,hp1,hlive,h.row,h.ids,h.p,h.tg]
 simp only [show ¬ ((1:Nat) = 0∨true = false) by simp,if_false]
 have hc:True∧True∧0 + l.length = AM.aj (.pb l)∧aQ (.pb l) = 1∧ji C e (l.length + AM.aj p) = true:=⟨trivial,trivial,by simp [AM.aj],rfl,by rw [hpl];exact hroom⟩
 rw [if_pos hc]
 simp only [jo,Nat.zero_add,Nat.le_refl,if_true,List.drop_zero,List.take_length,hpa,gu,aQ]
 simp [hpl]
 rfl
theorem Ev1.Xz (hT:Below C T) {args xs:List AV} {aP:List eU} {fn:Func} {c:Code} {n:Nat} {k:Option Nat} {l:List UInt8} {rest:List AV}
  (hF:C.P.funcs[f]? = some fn) (hb:fn.body = some c) (hl:aO C f H 0 args = some (xs,aP)) (hi:aT xs = []) (hn:xs.length + 1 < dJ) (hri:aT rest = []) (hrt:bW rest = []) (hnt:gG rest = true)
  (h:au (nY fun fr H1=>∃ o g ob,bf C fr H1 fn.results.toList = some (.sl o 0 n g :: rest)∧H1[o]? = some (some ob)∧Rw (.pb l) g ob∧ob.cap = k) C T f 0 c (numbered 0 (coerce C xs (aV C f))) []) :
  ∃ ob',Rw (.pb l) 0 ob'∧ob'.cap = k∧Ev1 C f args H (aW (.sl H.length 0 n 0 :: rest),H ++ [some ob']):=by
 obtain ⟨⟨ex,fr,H1⟩,⟨he,o,g,ob,hr,ho,hw,hk⟩,hrun⟩:=h
 simp only at he hr ho
 subst he
 refine ⟨AM.fresh ob,⟨hw.p,rfl,hw.row,hw.ids,rfl⟩,hk,?_⟩
 have:=Ev1.fresh (H:=H) hT hF hb hl hi hn hrun (.inr rfl) hr (o:=o) (g:=g) (ob:=ob) (by rw [kY (l:=.sl o 0 n g :: rest) hnt];simp [aT,ids,hri]) (by rw [jP (l:=.sl o 0 n g :: rest) hnt];simp [bW,tags,hrt]) (by simp [live,ho,hw.g]) hw.ids (by rw [hw.p];rfl) hw.tg
 rw [sQ (w:=.sl H.length 0 n 0) (by simp [ren]) (eX rest hri (fun t ht=>rfl)) (by exact hnt) (by exact hnt)] at this
 exact this
end
end Go.AM
namespace Go.AM
section
variable {C:Ctx} {f:Nat} {H:Heap} {T:Cf}
theorem Ox {H:Heap} {o:Nat} {ob:Obj} (ho:H[o]? = some (some ob)) (hi:ids ob.p = []):reach H aJ [o,o] [] = [o]:=by
 unfold aJ
 simp [reach,ho,hi]
theorem Ev1.rwB (hT:Below C T) {o off len g:Nat} {ob ob1:Obj} {xs ys:List AV} {aP:List eU} {fn:Func} {c:Code} {out:Out} {rest:List AV} {Tv:Heap} {n off1 n1 g1:Nat}
  (hF:C.P.funcs[f]? = some fn) (hb:fn.body = some c) (hrw:C.rw f 0 = true) (ho:H[o]? = some (some ob)) (hg:ob.g = g) (hid:ob.ids = false) (hp:jQ ob.p = true)
  (hl:aO C f H 1 xs = some (ys,aP)) (hiy:aT ys = []) (hob:aP.all (fun x=>disjoint x.objs [o]) = true) (hn:ys.length + 2 = n) (hng:n < dJ)
  (he:Run C T f 1 c (numbered 0 (coerce C (.sl 0 off len 0 :: ys) (aV C f))) [some { ob with g:=0,tg:=n }] out)
  (hex:out.ex = .normal∨out.ex = .ret) (hr:bf C out.fr out.H fn.results.toList = some (.sl 0 off1 n1 g1 :: rest))
  (hH:out.H = some ob1 :: Tv) (hg1:ob1.g = g1) (Qx:ob1.ids = false) (hp1:jQ ob1.p = true) (Vp:ob1.tg = 0∨ob1.tg = n) (hri:aT rest = []) (hrt:bW rest = []) (hnt:gG rest = true) :
  Ev1 C f (.sl o off len g :: xs) H (aW (.sl o off1 n1 (g + (if g1 = 0 then 0 else 1)) :: rest),upd H o (some { ob1 with g:=g + (if g1 = 0 then 0 else 1),tg:=bk n ob.tg ob1.tg })):=by
 have hi:ids ob.p = []:=sN hp
 have hi1:ids ob1.p = []:=sN hp1
 have Ot:∀ (ρ:Nat→Nat→Option (Nat × Nat)) (τ:Nat→Nat),ren ρ τ ob.p = ob.p:=fun ρ τ=>sJ hp
 have XA:∀ (ρ:Nat→Nat→Option (Nat × Nat)) (τ:Nat→Nat),ren ρ τ ob1.p = ob1.p:=fun ρ τ=>sJ hp1
 have hlive:live H o g = some ob:=by simp [live,ho,hg]
 have hat:bD H o = some ob:=by simp [bD,ho]
 have hl':=AL (o:=o) (off:=off) (len:=len) (g:=g) hrw hl
 have hre:reach H aJ (aT (.sl o off len g :: ys)) [] = [o]:=by
  rw [show aT (.sl o off len g :: ys) = [o] by simp [aT,ids,hiy]]
  exact nC ho hi
 have hin:dF H [o] o g = some (0,0):=by simp [dF,hlive,idxOf]
 have hlen:=jU hl
 have hn0:0 < n:=by omega
 have hto:dI ob = [ob.tg]:=by
  unfold dI
  rw [hid]
  cases hpp:ob.p <;> rw [hpp] at hp <;> simp [jQ] at hp <;> rfl
 have Vo:dI ob1 = [ob1.tg]:=by
  unfold dI
  rw [Qx]
  cases hpp:ob1.p <;> rw [hpp] at hp1 <;> simp [jQ] at hp1 <;> rfl
 have kV:ids (aW (.sl 0 off1 n1 g1 :: rest)) = [0]:=by rw [kY (l:=.sl 0 off1 n1 g1 :: rest) hnt];simp [aT,ids,hri]
 have Qu:tags (aW (.sl 0 off1 n1 g1 :: rest)) = []:=by rw [jP (l:=.sl 0 off1 n1 g1 :: rest) hnt];simp [bW,tags,hrt]
 refine Ev1.of (out:=out) (l:=.sl 0 off1 n1 g1 :: rest) hT hF hb hl' ?_ ?_ hex hr ?_
 ·rw [hre]
  simp only [List.all_cons,Bool.and_eq_true,decide_eq_true_eq,List.length_cons]
  exact ⟨⟨rfl,hob⟩,by omega⟩
 ·rw [hre]
  have e1:dN (dF H [o]) (fun t=>t) (.sl o off len g :: ys) = .sl 0 off len 0 :: ys:=by
   simp only [dN,ren,hin]
   rw [eX ys hiy (fun _ _=>rfl)]
  have e2:([o].map fun o'=>(bD H o').map (bn (dF H [o]) (fun _=>(AV.sl o off len g :: ys).length + 1) 0)) = [some { ob with g:=0,tg:=n }]:=by
   simp only [List.map_cons,List.map_nil,hat,Option.map_some,bn,List.length_cons]
   rw [show ys.length + 1 + 1 = n by omega,Ot]
  rw [e1,e2]
  exact he
 ·rw [hre]
  unfold wrap
  have h0:out.H[0]? = some (some ob1):=by rw [hH];rfl
  have zO:bD out.H 0 = some ob1:=by simp [bD,h0]
  have Vq:live out.H 0 g1 = some ob1:=by simp [live,h0,hg1]
  have Lh:reach out.H aJ (List.range [o].length ++ ids (aW (.sl 0 off1 n1 g1 :: rest))) [] = [0]:=by
   rw [kV]
   exact Ox h0 hi1
  have hbt:∀ k,k = 0∨k = n→dY (⟨[],[]⟩ :: aP ++ [⟨[],aG ([o].map (bD H))⟩]) k = some (bk n ob.tg k):=by
   rintro k (rfl | rfl)
   ·unfold dY bk
    rw [if_pos rfl,if_neg (by omega)]
   ·unfold dY bk
    rw [if_neg (by omega),if_pos rfl]
    rw [List.cons_append,show k - 1 = (k - 2) + 1 by omega,List.getElem?_cons_succ,List.getElem?_append_right (by omega),show k - 2 - aP.length = 0 by omega]
    simp [aG,hat,hto,fK,gu]
    omega
  have hgo:∀ k,k = 0∨k = n→dO (⟨[],[]⟩ :: aP ++ [⟨[],aG ([o].map (bD H))⟩]) k = []:=by
   rintro k (rfl | rfl)
   ·rfl
   ·unfold dO
    rw [if_neg (by omega)]
    rw [List.cons_append,show k - 1 = (k - 2) + 1 by omega,List.getElem?_cons_succ,List.getElem?_append_right (by omega),show k - 2 - aP.length = 0 by omega]
    rfl
  generalize (⟨[],[]⟩ :: aP ++ [⟨[],aG ([o].map (bD H))⟩]:List eU) = L at *
  have hbT:dM L ob1.tg = bk n ob.tg ob1.tg:=by unfold dM;rw [hbt _ Vp];rfl
  simp only [Lh]
  rw [show ([0].filter fun o'=>decide ([o].length≤o')) = [] from rfl]
  have hus:(tags (aW (.sl 0 off1 n1 g1 :: rest)) ++ aG ((List.range [o].length).map (bD out.H)) ++ aG (([]:List Nat).map (bD out.H))) = [ob1.tg]:=by
   simp [aG,zO,List.range_succ,Qu,Vo]
  rw [hus]
  rw [if_pos (by simp [hbt _ Vp])]
  rw [show [ob1.tg].flatMap (dO L) = [] by simp [hgo _ Vp]]
  simp only [List.filter_nil,strike,List.map_nil,List.append_nil,dH,zO,Option.map_some,Option.some.injEq,Prod.mk.injEq]
  have hgb:fQ H [o] 0 g1 = g + (if g1 = 0 then 0 else 1):=by simp [fQ,hat,hg]
  have hbn:dh H [o] [] out.H 0 g1 = some (o,g + (if g1 = 0 then 0 else 1)):=by
   unfold dh
   rw [Vq]
   simp [hgb]
  refine ⟨?_,?_⟩
  ·refine sQ (w:=.sl o off1 n1 (g + (if g1 = 0 then 0 else 1))) ?_ ?_ hnt hnt
   ·simp only [ren,hbn]
   ·exact eX rest hri (fun t ht=>by rw [hrt] at ht;cases ht)
  ·rw [hg1,hgb]
   simp only [bn,XA,hbT]
structure RwT (p:AV) (g t:Nat) (ob:Obj):Prop where
 p:ob.p = p
 g:ob.g = g
 row:ob.row = true
 ids:ob.ids = false
 tg:ob.tg = t
theorem Gm {T e:Nat} (hT:und C T = .slice e) (he:und C e = .int .u8) (hs:sizeT C e = 1) (hb:bQ C e = 1) (hz:bY C e = true) {o g t:Nat} {ob:Obj} {l m:List UInt8} {src:AV}
  (ho:H[o]? = some (some ob)) (h:RwT (.pb l) g t ob) (hsrc:kD H src = some (.pb m,0)∨(kD H src = some (.pn,0)∧m = [])) (hn:l.length + m.length≤100000000) :
  ∃ ob',RwT (.pb (l ++ m)) (g + 1) t ob'∧dV C H T (.sl o 0 l.length g) src = some (.sl o 0 (l.length + m.length) (g + 1),upd H o (some ob')):=by
 have hlive:live H o g = some ob:=by simp [live,ho,h.g]
 have hroom:ji C e (l.length + m.length) = true:=by simp [ji,hb];omega
 obtain ⟨p,hp1,hp2⟩:∃ p,kD H src = some (p,0)∧PB p m:=by
  rcases hsrc with h1 | ⟨h1,h2⟩
  ·exact ⟨_,h1,.inl rfl⟩
  ·exact ⟨_,h1,.inr ⟨rfl,h2⟩⟩
 have hpl:=hp2.aj
 have hpa:tJ (.pb l) p = some (.pb (l ++ m)):=by
  rcases hp2 with rfl | ⟨rfl,rfl⟩
  ·rfl
  ·simp [tJ]
 have hj:gu t 0 = some t:=by
  unfold gu
  by_cases h0:t = 0
  ·rw [if_pos h0,h0]
  ·rw [if_neg h0,if_pos (.inl rfl)]
 refine ⟨{ ob with p:=.pb (l ++ m),g:=g + 1,cap:=(match ob.cap with | some c=>if 0 + l.length + AM.aj p≤c then some (c - 0) else none | none=>none),z:=(if AM.aj ob.p = 0 then ob.z else 1),tg:=t },⟨rfl,rfl,h.row,h.ids,rfl⟩,?_⟩
 unfold dV
 simp only [hT,hs,hz,hp1,hlive,h.row,h.ids,h.p,h.tg]
 simp only [show ¬ ((1:Nat) = 0∨true = false) by simp,if_false]
 have hc:True∧True∧0 + l.length = AM.aj (.pb l)∧aQ (.pb l) = 1∧ji C e (l.length + AM.aj p) = true:=⟨trivial,trivial,by simp [AM.aj],rfl,by rw [hpl];exact hroom⟩
 rw [if_pos hc]
 simp only [jo,Nat.zero_add,Nat.le_refl,if_true,List.drop_zero,List.take_length,hpa,hj,aQ]
 simp [hpl]
 rfl
theorem RwT.rw {p:AV} {g:Nat} {ob:Obj} (h:RwT p g 0 ob):Rw p g ob:=⟨h.p,h.g,h.row,h.ids,h.tg⟩
theorem Rw.rwt {p:AV} {g:Nat} {ob:Obj} (h:Rw p g ob):RwT p g 0 ob:=⟨h.p,h.g,h.row,h.ids,h.tg⟩
end
end Go.AM
namespace Go.AM
section
variable {Q Q':Out→Prop} {C:Ctx} {T:Cf} {f m:Nat} {fr:Frame} {H:Heap}
theorem au.mono {c:Code} (h:au Q C T f m c fr H) (hq:∀ o,Q o→Q' o):au Q' C T f m c fr H:=by
 obtain ⟨o,h1,h2⟩:=h
 exact ⟨o,hq o h1,h2⟩
theorem au.lJ {c:Code} (I:Nat→Frame→Heap→Prop)
  (step:∀ k fr H,I k fr H→au (fun o=>(o.ex = .normal∧∃ k',k' < k∧I k' o.fr o.H)∨(o.ex ≠ .normal∧Q o)) C T f m c fr H) {k:Nat} (h:I k fr H) :
  au Q C T f m (.loop c) fr H:=by
 induction k using Nat.strongRecOn generalizing fr H with
 | _ k ih =>
  obtain ⟨⟨ex,fr1,H1⟩,hq,hr⟩:=step k fr H h
  rcases hq with ⟨he,k',hk,hi⟩ | ⟨he,hq⟩
  ·simp only at he hi
   subst he
   obtain ⟨o,hq,ho⟩:=ih k' hk hi
   exact ⟨o,hq,Run.zV hr ho⟩
  ·exact ⟨_,hq,Run.Dv hr he⟩
theorem au.Vr {a b:Code} (h:au Q C T f m a fr H) (hq:∀ o,Q o→o.ex ≠ .normal):au Q C T f m (.seq a b) fr H:=by
 obtain ⟨o,h1,h2⟩:=h
 exact ⟨o,h1,Run.bH h2 (hq o h1)⟩
theorem au.blk {id:Nat} {c:Code} (h:au Q C T f m c fr H) (hq:∀ o,Q o→o.ex ≠ .exit id):au Q C T f m (.block id c) fr H:=by
 obtain ⟨o,h1,h2⟩:=h
 exact ⟨o,h1,Run.block h2 (hq o h1)⟩
def Or2 (P:Frame→Heap→Prop) (Q:Out→Prop) (o:Out):Prop:=(o.ex = .normal∧P o.fr o.H)∨(o.ex ≠ .normal∧Q o)
theorem au.or {a b:Code} {P:Frame→Heap→Prop} (h:au (Or2 P Q) C T f m a fr H) (h':∀ fr' H',P fr' H'→au Q C T f m b fr' H'):au Q C T f m (.seq a b) fr H:=by
 obtain ⟨⟨ex,fr1,H1⟩,hq,hr⟩:=h
 rcases hq with ⟨he,hp⟩ | ⟨he,hq⟩
 ·simp only at he hp
  subst he
  exact au.seq hr (h' _ _ hp)
 ·exact ⟨_,hq,Run.bH hr he⟩
theorem au.goes {c:Code} {P:Frame→Heap→Prop} (h:au (Goes P) C T f m c fr H):au (Or2 P Q) C T f m c fr H:=h.mono fun _ h=>.inl h
theorem au.P8 {c:Operand} {a b:Code} (hc:aK C fr c = .bool true) (h:au Q C T f m a fr H):au Q C T f m (.cond c a b) fr H:=by
 obtain ⟨o,hq,ho⟩:=h
 exact ⟨o,hq,Run.cond (d:=true) hc ho⟩
theorem au.Xr {c:Operand} {a b:Code} (hc:aK C fr c = .bool false) (h:au Q C T f m b fr H):au Q C T f m (.cond c a b) fr H:=by
 obtain ⟨o,hq,ho⟩:=h
 exact ⟨o,hq,Run.cond (d:=false) hc ho⟩
theorem au.LG {id:Nat} {c:Code} {P:Frame→Heap→Prop} (h:au (fun o=>Exits id P o∨(o.ex = .ret∧Q o)) C T f m c fr H):au (Or2 P Q) C T f m (.block id c) fr H:=by
 obtain ⟨⟨ex,fr1,H1⟩,hq,hr⟩:=h
 rcases hq with ⟨he,hp⟩ | ⟨he,hq⟩
 ·simp only at he hp
  subst he
  exact ⟨_,.inl ⟨rfl,hp⟩,Run.fV hr⟩
 ·simp only at he
  subst he
  exact ⟨_,.inr ⟨by simp,hq⟩,Run.block hr (by simp)⟩
end
def aS:List Nat→Code→Option Code
 | [],c=>some c
 | 0 :: r,.seq a _=>aS r a
 | _ :: r,.seq _ b=>aS r b
 | 0 :: r,.cond _ a _=>aS r a
 | _ :: r,.cond _ _ b=>aS r b
 | _ :: r,.block _ c=>aS r c
 | _ :: r,.loop c=>aS r c
 | _,_=>none
theorem piece {O:Option Code} {P:Code→Prop} (h:∃ code,O = some code∧P code) (code':Code) (h':O = some code'):P code':=by
 obtain ⟨c,h1,h2⟩:=h
 rw [h'] at h1
 exact (Option.some.inj h1) ▸ h2
def orB (y:UInt8) (j:Nat):UInt8:=UInt8.ofNat (y.toNat ||| 2 ^ j)
end Go.AM
namespace Go.AM
section
variable {C:Ctx} {T:Cf} {f:Nat} {H:Heap}
end
end Go.AM
namespace Go.AM
section
variable {C:Ctx} {T:Cf} {f:Nat} {H:Heap}
end
end Go.AM
namespace Go.AM
section
variable {C:Ctx} {f:Nat} {H:Heap} {T:Cf}
theorem G7 {T e es:Nat} (hT:und C T = .slice e) (hs:sizeT C e = es) (hes:es ≠ 0) (hb:bQ C e≤4096) (hz:bY C e = true) {o g:Nat} {ob:Obj} {l m:List AV} {src:AV}
  (ho:H[o]? = some (some ob)) (h:Rw (.pr es l) g ob) (hsrc:kD H src = some (.pr es m,0)) (hn:l.length + m.length≤100000000) :
  ∃ ob',Rw (.pr es (l ++ m)) (g + 1) ob'∧dV C H T (.sl o 0 l.length g) src = some (.sl o 0 (l.length + m.length) (g + 1),upd H o (some ob')):=by
 have hlive:live H o g = some ob:=by simp [live,ho,h.g]
 have hroom:ji C e (l.length + m.length) = true:=by
  unfold ji
  have:(l.length + m.length) * bQ C e≤100000000 * 4096:=Nat.mul_le_mul hn hb
  exact decide_eq_true ⟨by omega,by omega⟩
 refine ⟨{ ob with p:=.pr es (l ++ m),g:=g + 1,cap:=(match ob.cap with | some c=>if 0 + l.length + AM.aj (.pr es m)≤c then some (c - 0) else none | none=>none),z:=(if AM.aj ob.p = 0 then ob.z else 1),tg:=0 },⟨rfl,rfl,h.row,h.ids,rfl⟩,?_⟩
 unfold dV
 simp only [hT,hs,hz,hsrc,hlive,h.row,h.ids,h.p,h.tg]
 rw [if_neg (by simp [hes])]
 have hc:True∧True∧0 + l.length = AM.aj (.pr es l)∧aQ (.pr es l) = es∧ji C e (l.length + AM.aj (.pr es m)) = true:=⟨trivial,trivial,by simp [AM.aj],rfl,by simpa [AM.aj] using hroom⟩
 rw [if_pos hc]
 simp only [jo,Nat.zero_add,Nat.le_refl,if_true,List.drop_zero,List.take_length,tJ,gu,aQ]
 simp [AM.aj]
 rfl
theorem Ev1.newR (hT:Below C T) {args xs:List AV} {aP:List eU} {fn:Func} {c:Code} {n es:Nat} {l rest:List AV}
  (hF:C.P.funcs[f]? = some fn) (hb:fn.body = some c) (hl:aO C f H 0 args = some (xs,aP)) (hi:aT xs = []) (hn:xs.length + 1 < dJ) (hri:aT rest = []) (hrt:bW rest = []) (hnt:gG rest = true) (hpi:aT l = []) (hpt:bW l = [])
  (h:au (nY fun fr H1=>∃ o g ob,bf C fr H1 fn.results.toList = some (.sl o 0 n g :: rest)∧H1[o]? = some (some ob)∧Rw (.pr es l) g ob) C T f 0 c (numbered 0 (coerce C xs (aV C f))) []) :
  ∃ ob',Rw (.pr es l) 0 ob'∧Ev1 C f args H (aW (.sl H.length 0 n 0 :: rest),H ++ [some ob']):=by
 obtain ⟨⟨ex,fr,H1⟩,⟨he,o,g,ob,hr,ho,hw⟩,hrun⟩:=h
 simp only at he hr ho
 subst he
 refine ⟨AM.fresh ob,⟨hw.p,rfl,hw.row,hw.ids,rfl⟩,?_⟩
 have:=Ev1.Vl (H:=H) hT hF hb hl hi hn hrun (.inr rfl) hr (o:=o) (g:=g) (ob:=ob) (by rw [kY (l:=.sl o 0 n g :: rest) hnt];simp [aT,ids,hri]) (by rw [jP (l:=.sl o 0 n g :: rest) hnt];simp [bW,tags,hrt]) (by simp [live,ho,hw.g]) hw.ids (by rw [hw.p];exact hpi) (by rw [hw.p];exact hpt) (by simp [dI,hw.ids,hw.p,hw.tg]) hw.tg
 rw [sQ (w:=.sl H.length 0 n 0) (by simp [ren]) (eX rest hri (fun t ht=>rfl)) (by exact hnt) (by exact hnt)] at this
 exact this
def Na (H:Heap) (a:AV) (es:Nat) (l:List AV):Prop :=
 ∃ c p,(p = .pr es l∨(p = .pn∧l = []))∧(c = 0→l = [])∧∀ t,∃ x,fU H t a = some (.ro c p t,x)
theorem Na.ro {c t es:Nat} {l:List AV} (hc:c = 0→l = []):Na H (.ro c (.pr es l) t) es l :=
 ⟨c,_,.inl rfl,hc,fun _=>⟨⟨[],[t]⟩,rfl⟩⟩
theorem Na.whole {o g es:Nat} {ob:Obj} {l:List AV} (ho:H[o]? = some (some ob)) (h:Rw (.pr es l) g ob):Na H (.sl o 0 l.length g) es l:=by
 have hlive:live H o g = some ob:=by simp [live,ho,h.g]
 refine ⟨if ob.z = 0∧AM.aj ob.p = 0 then 0 else 2,.pr es l,.inl rfl,fun h0=>?_,fun t=>⟨⟨[o],[ob.tg]⟩,?_⟩⟩
 ·split at h0
  ·rename_i hz
   have hm:l.length = 0:=by have:=hz.2;rw [h.p] at this;exact this
   exact List.eq_nil_of_length_eq_zero hm
  ·cases h0
 ·simp only [fU,eY,hlive,h.ids,h.p,jo]
  simp
end
end Go.AM
namespace Go.AM
def Fb (b:Array Nat) (n:Nat):List (Nat × Nat) :=
 (List.range n).flatMap fun j=>(List.range j).filterMap fun i=>if (b.getD j 0).testBit i then none else some (i,j)
def TF (ms:List Mark) (p:Nat × Nat):Bool:=match ms[p.1]?,ms[p.2]? with | some x,some y=>bear x y | _,_=>false
theorem KR {b:Array Nat} {ms:List Mark} {ps:List (Nat × Nat)} (h:Fb b ms.length = ps) (h2:ps.all (TF ms) = true):vU b ms = true:=by
 unfold vU
 rw [List.all_eq_true]
 intro j hj
 rw [List.all_eq_true]
 intro i hi
 cases hb:(b.getD j 0).testBit i with
 | true=>rfl
 | false =>
  rw [Bool.false_or]
  subst h
  have:=List.all_eq_true.1 h2 (i,j) (by
   unfold Fb
   rw [List.mem_flatMap]
   exact ⟨j,hj,List.mem_filterMap.2 ⟨i,hi,by rw [hb];rfl⟩⟩)
  exact this
end Go.AM
namespace Go.AM
section
variable {C:Ctx} {f:Nat} {H:Heap} {T:Cf}
def Nb (H:Heap) (a:AV) (l:List AV):Prop :=
 ∃ c p,(p = .pc l∨(p = .pn∧l = []))∧(c = 0→l = [])∧∀ t,∃ x,fU H t a = some (.ro c p t,x)
theorem Nb.ro {c t:Nat} {l:List AV} (hc:c = 0→l = []):Nb H (.ro c (.pc l) t) l :=
 ⟨c,_,.inl rfl,hc,fun _=>⟨⟨[],[t]⟩,rfl⟩⟩
theorem Nb.whole {o g:Nat} {ob:Obj} {l:List AV} (ho:H[o]? = some (some ob)) (h:Rw (.pc l) g ob):Nb H (.sl o 0 l.length g) l:=by
 have hlive:live H o g = some ob:=by simp [live,ho,h.g]
 refine ⟨if ob.z = 0∧AM.aj ob.p = 0 then 0 else 2,.pc l,.inl rfl,fun h0=>?_,fun t=>⟨⟨[o],[ob.tg]⟩,?_⟩⟩
 ·split at h0
  ·rename_i hz
   have hm:l.length = 0:=by have:=hz.2;rw [h.p] at this;exact this
   exact List.eq_nil_of_length_eq_zero hm
  ·cases h0
 ·simp only [fU,eY,hlive,h.ids,h.p,jo]
  simp
end
end Go.AM
namespace Go.AM
section
variable {C:Ctx} {f:Nat} {H:Heap} {T:Cf}
end
end Go.AM
namespace Go.AM
section
variable {C:Ctx} {f:Nat} {H:Heap} {T:Cf}
end
end Go.AM
namespace Go.AM
theorem jk {ρ:Nat→Nat→Option (Nat × Nat)} {τ:Nat→Nat} {H:Heap} {π:List Nat} {H1:Heap}:∀ (l:List Nat) (k:Nat) (B:Heap),(dH ρ τ H π H1 k l B).length = B.length
 | [],_,_=>rfl
 | o :: r,k,B=>by rw [dH,jk r];simp [upd]
theorem xU {ρ:Nat→Nat→Option (Nat × Nat)} {τ:Nat→Nat} {H:Heap} {π:List Nat} {H1:Heap} {j:Nat}:∀ (l:List Nat) (k:Nat) (B:Heap),j ∉ l→(dH ρ τ H π H1 k l B)[j]? = B[j]?
 | [],_,_,_=>rfl
 | o :: r,k,B,h=>by
  rw [dH,xU r _ _ (fun h2=>h (List.mem_cons_of_mem _ h2))]
  unfold upd
  rw [List.getElem?_set_ne (fun h2=>h (by rw [h2];exact List.mem_cons_self ..))]
theorem DC {ρ:Nat→Nat→Option (Nat × Nat)} {τ:Nat→Nat} {H:Heap} {π:List Nat} {H1:Heap}:∀ (l:List Nat) (k i o:Nat) (B:Heap),l.Nodup→l[i]? = some o→o < B.length →
  (dH ρ τ H π H1 k l B)[o]? = some ((bD H1 (k + i)).map fun ob=>bn ρ τ (fQ H π (k + i) ob.g) ob)
 | [],_,i,_,_,_,h,_=>by simp at h
 | a :: r,k,0,o,B,hn,h,hl=>by
  simp at h
  subst h
  rw [List.nodup_cons] at hn
  rw [dH,xU r _ _ hn.1]
  unfold upd
  rw [List.getElem?_set_self hl,Nat.add_zero]
 | a :: r,k,i + 1,o,B,hn,h,hl=>by
  rw [List.nodup_cons] at hn
  rw [dH,DC r (k + 1) i o _ hn.2 (by simpa using h) (by simpa [upd] using hl),show k + 1 + i = k + (i + 1) by omega]
section
variable {C:Ctx} {f:Nat} {H:Heap} {T:Cf}
def okTags (n:Nat) (ob:Obj):Prop:=(∀ t ∈ tags ob.p,t = 0∨t = n)∧(ob.tg = 0∨ob.tg = n)
theorem okTags.ob {n:Nat} {ob:Obj} (h:okTags n ob) (hp:∀ l,ob.p ≠ .pm l):∀ t ∈ dI ob,t = 0∨t = n:=by
 intro t ht
 unfold dI at ht
 split at ht
 ·exact h.1 t ht
 ·rcases List.mem_cons.1 ht with rfl | ht
  ·exact h.2
  ·split at ht
   ·rename_i l hl;exact absurd hl (hp l)
   ·simp at ht
end
end Go.AM
namespace Go.AM
theorem JB {k:Nat}:∀ {new:List Nat},k ∈ new→∃ i,new[i]? = some k∧∀ j,idxOf new k j = some (j + i)
 | a :: r,h=>by
  by_cases e:a = k
  ·subst e
   exact ⟨0,rfl,fun j=>by simp [idxOf]⟩
  ·have hk:k ∈ r:=by
    rcases List.mem_cons.1 h with h | h
    ·exact absurd h.symm e
    ·exact h
   obtain ⟨i,h1,h2⟩:=JB hk
   refine ⟨i + 1,by simpa using h1,fun j=>?_⟩
   unfold idxOf
   rw [if_neg e,h2]
   congr 1
   omega
def At (H:Heap) (π new:List Nat) (k o':Nat):Prop:=(k < π.length∧π[k]? = some o')∨(π.length≤k∧∃ i,new[i]? = some k∧o' = H.length + i)
theorem At.inj {H:Heap} {π new:List Nat} {k k2 o o2:Nat} (hn:π.Nodup) (hlt:∀ x ∈ π,x < H.length) (h:At H π new k o) (h2:At H π new k2 o2) (hne:k ≠ k2):o ≠ o2:=by
 rcases h with ⟨h1,h3⟩ | ⟨h1,i,h3,rfl⟩ <;> rcases h2 with ⟨g1,g3⟩ | ⟨g1,j,g3,rfl⟩
 ·intro e
  subst e
  rw [List.getElem?_eq_getElem h1] at h3
  rw [List.getElem?_eq_getElem g1] at g3
  have:=(List.getElem_inj hn (h₀:=h1) (h₁:=g1)).1 ((Option.some.inj h3).trans (Option.some.inj g3).symm)
  exact hne this
 ·have:=hlt o (List.mem_of_getElem? h3)
  omega
 ·have:=hlt o2 (List.mem_of_getElem? g3)
  omega
 ·intro e
  have:i = j:=by omega
  subst this
  rw [h3] at g3
  exact hne (Option.some.inj g3)
theorem Qy {H E:Heap} {π new:List Nat} {τ:Nat→Nat} (hn:π.Nodup) (hlt:∀ x ∈ π,x < H.length) {k:Nat} {ob:Obj} (hk:bD E k = some ob) (hm:k < π.length∨(π.length≤k∧k ∈ new)) :
  ∃ o' g',dh H π new E k ob.g = some (o',g')∧(dH (dh H π new E) τ H π E 0 π H ++ new.map fun o=>(bD E o).map (bn (dh H π new E) τ 0))[o']? = some (some (bn (dh H π new E) τ g' ob))∧At H π new k o'∧(k < π.length→g' = fQ H π k ob.g):=by
 have hl:live E k ob.g = some ob:=by
  unfold bD at hk
  unfold live
  cases h:E[k]? with
  | none=>rw [h] at hk;simp at hk
  | some x =>
   cases x with
   | none=>rw [h] at hk;simp at hk
   | some y =>
    rw [h] at hk
    simp at hk
    subst hk
    simp
 rcases hm with hm | ⟨hm,hmem⟩
 ·obtain ⟨o',ho'⟩:∃ o',π[k]? = some o':=⟨_,List.getElem?_eq_getElem hm⟩
  have hol:=hlt o' (List.mem_of_getElem? ho')
  refine ⟨o',fQ H π k ob.g,?_,?_,.inl ⟨hm,ho'⟩,fun _=>rfl⟩
  ·unfold dh
   rw [hl]
   simp only
   rw [if_pos hm,ho']
   rfl
  ·rw [List.getElem?_append_left (by rw [jk];exact hol)]
   have:=DC (ρ:=dh H π new E) (τ:=τ) (H:=H) (π:=π) (H1:=E) π 0 k o' H hn ho' hol
   rw [this,Nat.zero_add,hk]
   rfl
 ·obtain ⟨i,hi,hj⟩:=JB hmem
  refine ⟨H.length + i,0,?_,?_,.inr ⟨hm,i,hi,rfl⟩,fun h=>by omega⟩
  ·unfold dh
   rw [hl]
   simp only
   rw [if_neg (by omega),hj]
   rfl
  ·rw [List.getElem?_append_right (by rw [jk];omega),jk,Nat.add_sub_cancel_left,List.getElem?_map,hi]
   simp [hk]
theorem Qz {H E:Heap} {π new:List Nat} {τ:Nat→Nat} {ρ:Nat→Nat→Option (Nat × Nat)} {j:Nat} (hj:j < H.length) (hjp:j ∉ π):(dH ρ τ H π E 0 π H ++ new.map fun o=>(bD E o).map (bn ρ τ 0))[j]? = H[j]?:=by
 rw [List.getElem?_append_left (by rw [jk];exact hj),xU _ _ _ hjp]
end Go.AM
namespace Go.AM
def kT (π:List (Nat × Nat)) (k _:Nat):Option (Nat × Nat):=π[k]?
def idN (o g:Nat):Option (Nat × Nat):=some (o,g)
def tz (_:Nat):Nat:=0
section
variable {ρ ρ2 ρ3:Nat→Nat→Option (Nat × Nat)} {τ τ2 τ3:Nat→Nat}
mutual
theorem oH (h:∀ o g,(ρ o g).bind (fun x=>ρ2 x.1 x.2) = ρ3 o g) (ht:∀ t,τ2 (τ t) = τ3 t):(v:AV)→ren ρ2 τ2 (ren ρ τ v) = ren ρ3 τ3 v
 | .ptr o i f g=>by
  have h1:=h o g
  simp only [ren]
  rcases e:ρ o g with _ | ⟨a,b⟩
  ·rw [e] at h1;simp only [Option.bind_none] at h1;simp [ren,← h1]
  ·rw [e] at h1;simp only [Option.bind_some] at h1;simp [ren,← h1]
 | .sl o i f g=>by
  have h1:=h o g
  simp only [ren]
  rcases e:ρ o g with _ | ⟨a,b⟩
  ·rw [e] at h1;simp only [Option.bind_none] at h1;simp [ren,← h1]
  ·rw [e] at h1;simp only [Option.bind_some] at h1;simp [ren,← h1]
 | .map o g=>by
  have h1:=h o g
  simp only [ren]
  rcases e:ρ o g with _ | ⟨a,b⟩
  ·rw [e] at h1;simp only [Option.bind_none] at h1;simp [ren,← h1]
  ·rw [e] at h1;simp only [Option.bind_some] at h1;simp [ren,← h1]
 | .ro c p t=>by simp only [ren,ht]
 | .iQ p i f t=>by simp only [ren,ht]
 | .agg p=>by simp only [ren,oH h ht p]
 | .tup l=>by simp only [ren,rE h ht l]
 | .fn f l=>by simp only [ren,rE h ht l]
 | .pc l=>by simp only [ren,rE h ht l]
 | .pr e l=>by simp only [ren,rE h ht l]
 | .pm l=>by simp only [ren,rE h ht l]
 | .top=>rfl
 | .bool _=>rfl
 | .int _ _=>rfl
 | .str _=>rfl
 | .gZ=>rfl
 | .jv=>rfl
 | .ig=>rfl
 | .pn=>rfl
 | .pb _=>rfl
 | .pi _ _=>rfl
theorem rE (h:∀ o g,(ρ o g).bind (fun x=>ρ2 x.1 x.2) = ρ3 o g) (ht:∀ t,τ2 (τ t) = τ3 t):(l:List AV)→dN ρ2 τ2 (dN ρ τ l) = dN ρ3 τ3 l
 | []=>rfl
 | a :: r=>by simp only [dN,oH h ht a,rE h ht r]
end
end
section
variable {π:List (Nat × Nat)} {τ:Nat→Nat}
def sg (π:List (Nat × Nat)) (k:Nat):Nat:=(π.getD k (0,0)).1
mutual
theorem Bq:(v:AV)→(∀ o ∈ ids v,o < π.length)→ids (ren (kT π) τ v) = (ids v).map (sg π)
 | .ptr o i f g,h=>by
  have hl:o < π.length:=h o (by simp [ids])
  simp only [ren,kT,List.getElem?_eq_getElem hl]
  simp [ids,sg,List.getD,List.getElem?_eq_getElem hl]
 | .sl o i f g,h=>by
  have hl:o < π.length:=h o (by simp [ids])
  simp only [ren,kT,List.getElem?_eq_getElem hl]
  simp [ids,sg,List.getD,List.getElem?_eq_getElem hl]
 | .map o g,h=>by
  have hl:o < π.length:=h o (by simp [ids])
  simp only [ren,kT,List.getElem?_eq_getElem hl]
  simp [ids,sg,List.getD,List.getElem?_eq_getElem hl]
 | .ro c p t,_=>rfl
 | .iQ p i f t,_=>rfl
 | .agg p,h=>by simp only [ids] at h;simp only [ren,ids,Bq p h]
 | .tup l,h=>by simp only [ids] at h;simp only [ren,ids,rF l h]
 | .fn f l,h=>by simp only [ids] at h;simp only [ren,ids,rF l h]
 | .pc l,h=>by simp only [ids] at h;simp only [ren,ids,rF l h]
 | .pr e l,h=>by simp only [ids] at h;simp only [ren,ids,rF l h]
 | .pm l,h=>by simp only [ids] at h;simp only [ren,ids,rF l h]
 | .top,_=>rfl
 | .bool _,_=>rfl
 | .int _ _,_=>rfl
 | .str _,_=>rfl
 | .gZ,_=>rfl
 | .jv,_=>rfl
 | .ig,_=>rfl
 | .pn,_=>rfl
 | .pb _,_=>rfl
 | .pi _ _,_=>rfl
theorem rF:(l:List AV)→(∀ o ∈ aT l,o < π.length)→aT (dN (kT π) τ l) = (aT l).map (sg π)
 | [],_=>rfl
 | a :: r,h=>by
  simp only [aT,List.mem_append] at h
  simp only [dN,aT,Bq a (fun o ho=>h o (.inl ho)),rF r (fun o ho=>h o (.inr ho)),List.map_append]
end
end
structure Like (t:Nat) (π:List (Nat × Nat)) (g:Nat) (ob0 ob:Obj):Prop where
 p:ren idN tz ob.p = ren (kT π) tz ob0.p
 gen:ob.g = g
 row:ob.row = ob0.row
 ids:ob.ids = ob0.ids
 bx:ob0.row = false→ob.cap = ob0.cap∧ob.z = ob0.z∧g = 0
 tg:ob.tg = 0∨ob.tg = t
 tp:∀ k ∈ tags ob.p,k = 0∨k = t
structure Img (t:Nat) (H:Heap) (π:List (Nat × Nat)) (S:List Obj):Prop where
 len:π.length = S.length
 nd:∀ (j k oj gj ok gk:Nat),π[j]? = some (oj,gj)→π[k]? = some (ok,gk)→oj = ok→j = k
 ob:∀ (k:Nat) (ob0:Obj),S[k]? = some ob0→∃ o g ob,π[k]? = some (o,g)∧H[o]? = some (some ob)∧Like t π g ob0 ob
def OkS (S:List Obj):Prop:=∀ (k:Nat) (ob0:Obj),S[k]? = some ob0→∀ o ∈ ids ob0.p,o < S.length
def pi0 (K:Nat):List (Nat × Nat):=(List.range K).map fun k=>(k,0)
theorem zQ {K k:Nat}:(pi0 K)[k]? = if k < K then some (k,0) else none:=by
 unfold pi0
 rw [List.getElem?_map]
 by_cases h:k < K
 ·rw [List.getElem?_range h,if_pos h];rfl
 ·rw [List.getElem?_eq_none (by simpa using h),if_neg h];rfl
theorem pK {π:List (Nat × Nat)} {k o g:Nat} (h:π[k]? = some (o,g)):sg π k = o:=by simp [sg,List.getD,h]
section
variable {t:Nat} {H:Heap} {π:List (Nat × Nat)} {S:List Obj}
theorem Img.at' (h:Img t H π S) {k:Nat} (hk:k < S.length):∃ o g ob,π[k]? = some (o,g)∧H[o]? = some (some ob)∧Like t π g S[k] ob:=h.ob k S[k] (List.getElem?_eq_getElem hk)
theorem Img.ids (h:Img t H π S) (hok:OkS S) {k:Nat} {ob0 ob:Obj} {g:Nat} (hk:S[k]? = some ob0) (hl:Like t π g ob0 ob):AM.ids ob.p = (AM.ids ob0.p).map (sg π):=by
 have h1:AM.ids (ren idN tz ob.p) = AM.ids ob.p:=LK.oO ob.p
 rw [← h1,hl.p]
 exact Bq _ fun o ho=>by rw [h.len];exact hok k ob0 hk o ho
theorem Img.QB (h:Img t H π S) {j k:Nat} (hj:j < S.length) (hk:k < S.length) (e:sg π j = sg π k):j = k:=by
 obtain ⟨o,g,_,h1,_⟩:=h.at' hj
 obtain ⟨o2,g2,_,h2,_⟩:=h.at' hk
 rw [pK h1,pK h2] at e
 exact h.nd j k _ _ _ _ h1 h2 e
theorem Img.fst (h:Img t H π S):π.map Prod.fst = (List.range S.length).map (sg π):=by
 refine List.ext_getElem? fun k=>?_
 rw [List.getElem?_map,List.getElem?_map]
 by_cases hk:k < S.length
 ·obtain ⟨o,g,_,h1,_⟩:=h.at' hk
  rw [h1,List.getElem?_range hk]
  simp [pK h1]
 ·rw [List.getElem?_eq_none (by rw [h.len];omega),List.getElem?_eq_none (by simpa using hk)];rfl
theorem Img.nodup (h:Img t H π S):(π.map Prod.fst).Nodup:=by
 rw [h.fst,List.nodup_iff_pairwise_ne,List.pairwise_map]
 have:=(List.nodup_iff_pairwise_ne.1 (List.nodup_range (n:=S.length)))
 refine List.Pairwise.imp_of_mem ?_ this
 intro a b ha hb hne e
 exact hne (h.QB (List.mem_range.1 ha) (List.mem_range.1 hb) e)
theorem Img.lt (h:Img t H π S):∀ x ∈ π.map Prod.fst,x < H.length:=by
 intro x hx
 rw [h.fst] at hx
 obtain ⟨k,hk,rfl⟩:=List.mem_map.1 hx
 obtain ⟨o,g,ob,h1,h2,_⟩:=h.at' (List.mem_range.1 hk)
 rw [pK h1]
 exact (List.getElem?_eq_some_iff.1 h2).1
theorem Img.qy {k o g:Nat} (h:π[k]? = some (o,g)):(π.map Prod.fst)[k]? = some o:=by rw [List.getElem?_map,h];rfl
theorem wB (h:Img t H π S) (hok:OkS S):∀ (n:Nat) (l acc:List Nat),(∀ o ∈ l,o < S.length)→(∀ o ∈ acc,o < S.length) →
  reach H n (l.map (sg π)) (acc.map (sg π)) = (reach (S.map some) n l acc).map (sg π)∧∀ o ∈ reach (S.map some) n l acc,o < S.length
 | 0,l,acc,_,ha=>⟨rfl,ha⟩
 | n + 1,[],acc,_,ha=>⟨rfl,ha⟩
 | n + 1,o :: r,acc,hl,ha=>by
  have ho:=hl o (List.mem_cons_self ..)
  obtain ⟨o',g,ob,h1,h2,h3⟩:=h.at' ho
  have hc:(acc.map (sg π)).contains (sg π o) = acc.contains o:=by
   rw [Bool.eq_iff_iff]
   simp only [List.contains_iff_mem,List.mem_map]
   constructor
   ·rintro ⟨a,h4,h5⟩
    rw [← h.QB (ha a h4) ho h5];exact h4
   ·intro h4;exact ⟨o,h4,rfl⟩
  have hS:(S.map some)[o]? = some (some S[o]):=by rw [List.getElem?_map,List.getElem?_eq_getElem ho];rfl
  simp only [List.map_cons,reach]
  rw [hc]
  by_cases hm:acc.contains o = true
  ·rw [if_pos hm,if_pos hm]
   exact wB h hok n r acc (fun x hx=>hl x (List.mem_cons_of_mem _ hx)) ha
  ·rw [if_neg hm,if_neg hm,hS,pK h1,h2]
   simp only
   have hi:=h.ids hok (List.getElem?_eq_getElem ho) h3
   have e:(if ob.ids = true then AM.ids ob.p else []) ++ r.map (sg π) = ((if S[o].ids = true then AM.ids S[o].p else []) ++ r).map (sg π):=by
    rw [h3.ids,hi,List.map_append]
    split <;> rfl
   have e2:acc.map (sg π) ++ [o'] = (acc ++ [o]).map (sg π):=by rw [List.map_append,List.map_cons,List.map_nil,pK h1]
   rw [e,e2]
   refine wB h hok n _ _ ?_ ?_
   ·intro x hx
    rcases List.mem_append.1 hx with hx | hx
    ·split at hx
     ·exact hok o _ (List.getElem?_eq_getElem ho) x hx
     ·cases hx
    ·exact hl x (List.mem_cons_of_mem _ hx)
   ·intro x hx
    rcases List.mem_append.1 hx with hx | hx
    ·exact ha x hx
    ·rw [List.mem_singleton.1 hx];exact ho
theorem JC {l:List Nat} (hn:l.Nodup):∀ {k o i:Nat},l[k]? = some o→idxOf l o i = some (i + k):=by
 induction l with
 | nil=>intro k o i h;simp at h
 | cons a r ih =>
  intro k o i h
  rw [List.nodup_cons] at hn
  unfold idxOf
  cases k with
  | zero =>
   simp at h
   rw [if_pos h];rfl
  | succ k =>
   simp at h
   have:a ≠ o:=fun e=>hn.1 (e ▸ List.mem_of_getElem? h)
   rw [if_neg this,ih hn.2 h]
   congr 1
   omega
theorem Img.dF (h:Img t H π S) (k g0:Nat):(kT π k g0).bind (fun x=>AM.dF H (π.map Prod.fst) x.1 x.2) = kT (pi0 S.length) k g0:=by
 unfold kT
 rw [zQ]
 by_cases hk:k < S.length
 ·obtain ⟨o,g,ob,h1,h2,h3⟩:=h.at' hk
  rw [h1,if_pos hk]
  simp only [Option.bind_some]
  have hl:live H o g = some ob:=bI.2 ⟨h2,h3.gen⟩
  unfold AM.dF
  rw [hl]
  simp only
  rw [JC h.nodup (Img.qy h1)]
  simp
 ·rw [List.getElem?_eq_none (by rw [h.len];omega),if_neg hk];rfl
theorem Img.into (h:Img t H π S) (n:Nat):Img n ((π.map Prod.fst).map fun o=>(bD H o).map (bn (AM.dF H (π.map Prod.fst)) (fun _=>n) 0)) (pi0 S.length) S where
 len:=by simp [pi0]
 nd:=by
  intro j k oj gj ok gk h1 h2 e
  rw [zQ] at h1 h2
  split at h1
  ·split at h2
   ·simp only [Option.some.injEq,Prod.mk.injEq] at h1 h2
    omega
   ·cases h2
  ·cases h1
 ob:=by
  intro k ob0 hk
  obtain ⟨o,g,ob,h1,h2,h3⟩:=h.ob k ob0 hk
  have hlt:=(List.getElem?_eq_some_iff.1 hk).1
  have ht:∀ v:AV,∀ x ∈ tags (ren (AM.dF H (π.map Prod.fst)) (fun _=>n) v),x = n:=by
   intro v x hx
   rw [jR] at hx
   obtain ⟨_,_,rfl⟩:=List.mem_map.1 hx
   rfl
  refine ⟨k,0,bn (AM.dF H (π.map Prod.fst)) (fun _=>n) 0 ob,by rw [zQ,if_pos hlt],?_,⟨?_,rfl,h3.row,h3.ids,fun hr=>⟨(h3.bx hr).1,(h3.bx hr).2.1,rfl⟩,.inr rfl,fun x hx=>.inr (ht ob.p x hx)⟩⟩
  ·rw [List.getElem?_map,Img.qy h1]
   simp [bD,h2]
  ·simp only [bn]
   rw [oH (ρ:=AM.dF H (π.map Prod.fst)) (ρ2:=idN) (τ:=fun _=>n) (τ2:=tz) (ρ3:=AM.dF H (π.map Prod.fst)) (τ3:=tz) (fun o g=>by cases AM.dF H (π.map Prod.fst) o g <;> rfl) (fun _=>rfl)]
   rw [← oH (ρ:=idN) (τ:=tz) (ρ2:=AM.dF H (π.map Prod.fst)) (τ2:=tz) (ρ3:=AM.dF H (π.map Prod.fst)) (τ3:=tz) (fun o g=>rfl) (fun _=>rfl) ob.p]
   rw [h3.p]
   exact oH (fun o g=>h.dF o g) (fun _=>rfl) ob0.p
theorem JD {a b t:Nat} (ha:a = 0∨a = t) (hb:b = 0∨b = t):∃ t',(t' = 0∨t' = t)∧gu a b = some t':=by
 unfold gu
 rcases ha with rfl | rfl
 ·exact ⟨b,hb,by simp⟩
 ·by_cases h0:a = 0
  ·exact ⟨b,hb,by simp [h0]⟩
  ·refine ⟨a,.inr rfl,?_⟩
   rw [if_neg h0,if_pos]
   rcases hb with rfl | rfl
   ·exact .inl rfl
   ·exact .inr rfl
theorem zh {t:Nat}:∀ l:List Nat,(∀ k ∈ l,k = 0∨k = t)→∃ t',fK l = some t'∧(t' = 0∨t' = t)
 | [],_=>⟨0,rfl,.inl rfl⟩
 | k :: r,hl=>by
  obtain ⟨t',h1,h2⟩:=zh r fun x hx=>hl x (List.mem_cons_of_mem _ hx)
  obtain ⟨t3,h3,h4⟩:=JD (hl k (List.mem_cons_self ..)) h2
  exact ⟨t3,by simp [fK,h1,h4],h3⟩
theorem Like.dI {g:Nat} {ob0 ob:Obj} (h:Like t π g ob0 ob):∀ k ∈ AM.dI ob,k = 0∨k = t:=by
 intro k hk
 unfold AM.dI at hk
 split at hk
 ·exact h.tp k hk
 ·rcases List.mem_cons.1 hk with rfl | hk
  ·exact h.tg
  ·split at hk
   ·rename_i l hl
    refine h.tp k ?_
    rw [hl];exact hk
   ·cases hk
theorem lY {t:Nat} {H:Heap}:∀ l:List Nat,(∀ o ∈ l,∀ ob,bD H o = some ob→∀ k ∈ AM.dI ob,k = 0∨k = t)→∀ k ∈ aG (l.map (bD H)),k = 0∨k = t
 | [],_,k,hk=>by simp [aG] at hk
 | o :: r,h,k,hk=>by
  rw [List.map_cons] at hk
  cases ho:bD H o with
  | none =>
   rw [ho,aG] at hk
   exact lY r (fun x hx=>h x (List.mem_cons_of_mem _ hx)) k hk
  | some ob =>
   rw [ho,aG] at hk
   rcases List.mem_append.1 hk with hk | hk
   ·exact h o (List.mem_cons_self ..) ob ho k hk
   ·exact lY r (fun x hx=>h x (List.mem_cons_of_mem _ hx)) k hk
theorem Img.Ll (h:Img t H π S) {k:Nat} (hk:k < S.length):∀ ob,bD H (sg π k) = some ob→∀ x ∈ AM.dI ob,x = 0∨x = t:=by
 intro ob hob
 obtain ⟨o,g,ob',h1,h2,h3⟩:=h.at' hk
 rw [pK h1] at hob
 have:ob = ob':=by simpa [bD,h2] using hob.symm
 rw [this]
 exact h3.dI
end
def kE (C:Ctx) (f:Nat) (H:Heap) (π:List (Nat × Nat)) (K i:Nat) (xs ys:List AV):Prop :=
 ∃ as aP,aO C f H i xs = some (as,aP)∧(∀ x ∈ aP,disjoint x.objs (π.map Prod.fst) = true)∧dN (dF H (π.map Prod.fst)) (fun t=>t) as = ys ∧
  aT as = (aT ys).map (sg π)∧(∀ o ∈ aT ys,o < K)∧as.length = xs.length∧aP.length = xs.length
section
variable {C:Ctx} {f:Nat} {H:Heap} {π:List (Nat × Nat)} {K i:Nat} {xs ys:List AV}
theorem kE.nil:kE C f H π K i [] []:=⟨[],[],rfl,by simp,rfl,rfl,by simp [aT],rfl,rfl⟩
theorem kE.flat {a:AV} (hrw:C.rw f i = false) (ha:wQ a = true) (h:kE C f H π K (i + 1) xs ys):kE C f H π K i (a :: xs) (a :: ys):=by
 obtain ⟨as,aP,h1,h2,h3,h4,h5,h6,h7⟩:=h
 obtain ⟨hi,ht⟩:=JA ha
 refine ⟨a :: as,⟨[],[]⟩ :: aP,iM hrw ha h1,?_,?_,by simp [aT,hi,h4],by simpa [aT,hi] using h5,by simp [h6],by simp [h7]⟩
 ·intro x hx
  rcases List.mem_cons.1 hx with rfl | hx
  ·rfl
  ·exact h2 x hx
 ·simp only [dN,h3]
  rw [je a hi (fun _ _=>rfl)]
theorem kE.ptr {t k o a b g:Nat} {S:List Obj} (hI:Img t H π S) (hrw:C.rw f i = false) (hk:π[k]? = some (o,g)) (hK:k < S.length) (h:kE C f H π S.length (i + 1) xs ys):kE C f H π S.length i (.ptr o a b g :: xs) (.ptr k a b 0 :: ys):=by
 obtain ⟨as,aP,h1,h2,h3,h4,h5,h6,h7⟩:=h
 have hin:dF H (π.map Prod.fst) o g = some (k,0):=by
  have:=hI.dF k 0
  unfold kT at this
  rw [hk,zQ,if_pos hK] at this
  simpa using this
 refine ⟨.ptr o a b g :: as,⟨[],[]⟩ :: aP,?_,?_,?_,?_,?_,by simp [h6],by simp [h7]⟩
 ·simp only [aO,hrw]
  simp [fU,eY,tags,h1]
 ·intro x hx
  rcases List.mem_cons.1 hx with rfl | hx
  ·rfl
  ·exact h2 x hx
 ·simp [dN,ren,hin,h3]
 ·simp [aT,ids,h4,pK hk]
 ·intro x hx
  simp only [aT,ids,List.mem_append,List.mem_singleton] at hx
  rcases hx with rfl | hx
  ·exact hK
  ·exact h5 x hx
end
def qQ (P:Frame→Heap→Prop) (o:Out):Prop:=(o.ex = .normal∨o.ex = .ret)∧P o.fr o.H
theorem qQ.ret {P:Frame→Heap→Prop} {o:Out} (h:nY P o):qQ P o:=⟨.inr h.1,h.2⟩
def Leaves (C:Ctx) (rs:List ResultVar) (n:Nat) (S:List Obj) (Q:List Obj→AV→Prop) (fr:Frame) (E:Heap):Prop :=
 ∃ π' S' v0 l,bf C fr E rs = some l∧aW l = ren (kT π') (fun t=>t) v0∧Img n E π' S'∧OkS S'∧(∀ k ∈ tags v0,k = 0∨k = n)∧(∀ o ∈ ids v0,o < S'.length)∧S.length≤S'.length ∧
  (∀ k:Nat,k < S.length→∃ g,π'[k]? = some (k,g))∧(∀ (k:Nat) (ob ob':Obj),S[k]? = some ob→S'[k]? = some ob'→ob'.row = ob.row) ∧
  (∀ k,S.length≤k→k < S'.length→k ∈ reach (S'.map some) aJ (List.range S.length ++ ids v0) [])∧Q S' v0
section
variable {C:Ctx} {T:Cf} {f:Nat} {H:Heap}
theorem Ev1.img (hT:Below C T) {fn:Func} {c:Code} {t n:Nat} {π:List (Nat × Nat)} {S:List Obj} {xs ys:List AV} {Q:List Obj→AV→Prop}
  (hF:C.P.funcs[f]? = some fn) (hb:fn.body = some c) (hI:Img t H π S) (hok:OkS S) (hA:kE C f H π S.length 0 xs ys)
  (hR:reach (S.map some) aJ (aT ys) [] = List.range S.length) (hn:xs.length + 1 = n) (hng:n < dJ)
  (run:∀ E,E.length = S.length→Img n E (pi0 S.length) S→au (qQ (Leaves C fn.results.toList n S Q)) C T f S.length c (numbered 0 (coerce C ys (aV C f))) E) :
  ∃ π'' S' v0 H' τf,Ev1 C f xs H (ren (kT π'') τf v0,H')∧(∀ k ∈ tags v0,τf k = 0∨τf k = t)∧Img t H' π'' S'∧OkS S'∧(∀ o ∈ ids v0,o < S'.length)∧Q S' v0∧H.length≤H'.length ∧
   (∀ (k o g:Nat),π[k]? = some (o,g)→∃ g',π''[k]? = some (o,g'))∧(∀ (k o g:Nat),S.length≤k→π''[k]? = some (o,g)→H.length≤o) ∧
   (∀ j,j < H.length→(∀ (k o g:Nat),π[k]? = some (o,g)→j ≠ o)→H'[j]? = H[j]?):=by
 obtain ⟨as,aP,h1,h2,h3,h4,h5,h6,h7⟩:=hA
 have hr1:reach H aJ (aT as) [] = π.map Prod.fst:=by
  have:=(wB hI hok aJ (aT ys) [] h5 (by simp)).1
  rw [List.map_nil] at this
  rw [h4,this,hR,hI.fst]
 have hpl:(π.map Prod.fst).length = S.length:=by rw [List.length_map,hI.len]
 have hE:=hI.into n
 have hEl:((π.map Prod.fst).map fun o=>(bD H o).map (bn (dF H (π.map Prod.fst)) (fun _=>n) 0)).length = S.length:=by rw [List.length_map,hpl]
 obtain ⟨⟨ex,fr,E⟩,⟨he,π',S',v0,l,r1,r2,r3,r4,r5,r6,r7,r8,r9,r10,r11⟩,hrun⟩:=run _ hEl hE
 simp only at he r1 r3
 have hlt:=hI.lt
 have hnd:=hI.nodup
 -- what is left behind
 have hri:=wB r3 r4 aJ (List.range S.length ++ ids v0) [] (fun o ho=>by
  rcases List.mem_append.1 ho with ho | ho
  ·have:=List.mem_range.1 ho;omega
  ·exact r6 o ho) (by simp)
 have aeg:ids (aW l) = (ids v0).map (sg π'):=by rw [r2];exact Bq v0 fun o ho=>by rw [r3.len];exact r6 o ho
 have hrange:(List.range S.length).map (sg π') = List.range S.length:=by
  refine List.ext_getElem? fun k=>?_
  rw [List.getElem?_map]
  by_cases hk:k < S.length
  ·obtain ⟨g,hg⟩:=r8 k hk
   rw [List.getElem?_range hk]
   simp [pK hg]
  ·rw [List.getElem?_eq_none (by simpa using hk)];rfl
 generalize hRR:reach (S'.map some) aJ (List.range S.length ++ ids v0) [] = R at *
 have hK:reach E aJ (List.range (π.map Prod.fst).length ++ ids (aW l)) [] = R.map (sg π'):=by
  rw [hpl,aeg,← hri.1,List.map_append,hrange,List.map_nil]
 obtain ⟨t',hjt,htt⟩:=zh (t:=t) (aG ((π.map Prod.fst).map (bD H))) (lY _ fun o ho ob hob=>by
  rw [hI.fst] at ho
  obtain ⟨k,hk,rfl⟩:=List.mem_map.1 ho
  exact hI.Ll (List.mem_range.1 hk) ob hob)
 have hal:as.length + 1 = n:=by omega
 have hn0:0 < n:=by omega
 -- new objects
 generalize hnew:(R.map (sg π')).filter (fun o=>decide ((π.map Prod.fst).length≤o)) = new
 have QC:∀ k,S.length≤k→k < S'.length→sg π' k ∈ new∧S.length≤sg π' k:=by
  intro k hk hk2
  have hge:S.length≤sg π' k:=by
   refine Classical.byContradiction fun hc=>?_
   have hc:sg π' k < S.length:=by omega
   obtain ⟨g,hg⟩:=r8 _ hc
   obtain ⟨o,g2,_,h8,_⟩:=r3.at' hk2
   have e:=pK h8
   rw [e] at hg hc
   have:=r3.nd k o _ _ _ _ h8 hg rfl
   omega
  refine ⟨?_,hge⟩
  rw [← hnew,List.mem_filter]
  exact ⟨List.mem_map.2 ⟨k,r10 k hk hk2,rfl⟩,by simpa [hI.len] using hge⟩
 have hmem:∀ k,k < S'.length→sg π' k < (π.map Prod.fst).length∨((π.map Prod.fst).length≤sg π' k∧sg π' k ∈ new):=by
  intro k hk
  rw [hpl]
  by_cases hk2:k < S.length
  ·obtain ⟨g,hg⟩:=r8 k hk2
   rw [pK hg];exact .inl hk2
  ·obtain ⟨q1,q2⟩:=QC k (by omega) hk
   exact .inr ⟨q2,q1⟩
 have hbt:∀ k,k = 0∨k = n→dY (aP ++ [⟨[],aG ((π.map Prod.fst).map (bD H))⟩]) k = some (bk n t' k):=by
  rintro k (rfl | rfl)
  ·unfold dY bk
   rw [if_pos rfl,if_neg (by omega)]
  ·unfold dY bk
   rw [if_neg (by omega),if_pos rfl]
   rw [List.getElem?_append_right (by omega),show k - 1 - aP.length = 0 by omega]
   simp only [List.getElem?_cons_zero]
   exact hjt
 have hgo:∀ k,k = 0∨k = n→dO (aP ++ [⟨[],aG ((π.map Prod.fst).map (bD H))⟩]) k = []:=by
  rintro k (rfl | rfl)
  ·rfl
  ·unfold dO
   rw [if_neg (by omega)]
   rw [List.getElem?_append_right (by omega),show k - 1 - aP.length = 0 by omega]
   rfl
 generalize hL:(aP ++ [⟨[],aG ((π.map Prod.fst).map (bD H))⟩]:List eU) = L at hbt hgo
 have hbT:∀ k,k = 0∨k = n→dM L k = bk n t' k:=fun k hk=>by unfold dM;rw [hbt k hk];rfl
 have hb0:dM L 0 = 0:=by rw [hbT 0 (.inl rfl)];unfold bk;rw [if_neg (by omega)]
 have Vs:∀ k,k = 0∨k = n→dM L k = 0∨dM L k = t:=by
  intro k hk
  rw [hbT k hk]
  unfold bk
  split
  ·exact htt
  ·exact .inl rfl
 have htv:∀ k ∈ tags (aW l),k = 0∨k = n:=by
  intro k hk
  rw [r2,jR] at hk
  simp only [List.map_id'] at hk
  exact r5 k hk
 have hus:∀ x ∈ tags (aW l) ++ aG ((List.range (π.map Prod.fst).length).map (bD E)) ++ aG (new.map (bD E)),x = 0∨x = n:=by
  intro x hx
  rcases List.mem_append.1 hx with hx | hx
  ·rcases List.mem_append.1 hx with hx | hx
   ·exact htv x hx
   ·refine lY _ ?_ x hx
    intro o ho ob hob
    have ho:=List.mem_range.1 ho
    rw [hpl] at ho
    obtain ⟨g,hg⟩:=r8 o ho
    have:=r3.Ll (k:=o) (by omega) ob
    rw [pK hg] at this
    exact this hob
  ·refine lY _ ?_ x hx
   intro o ho ob hob
   rw [← hnew,List.mem_filter] at ho
   obtain ⟨k,hk,rfl⟩:=List.mem_map.1 ho.1
   exact r3.Ll (hri.2 k hk) ob hob
 -- back
 have hback:∀ (k:Nat) (ob0:Obj),S'[k]? = some ob0→∃ o' g' ob' o'' g'',π'[k]? = some (o',g')∧E[o']? = some (some ob')∧Like n π' g' ob0 ob'∧dh H (π.map Prod.fst) new E o' g' = some (o'',g'') ∧
   (dH (dh H (π.map Prod.fst) new E) (dM L) H (π.map Prod.fst) E 0 (π.map Prod.fst) H ++ new.map fun o=>(bD E o).map (bn (dh H (π.map Prod.fst) new E) (dM L) 0))[o'']? = some (some (bn (dh H (π.map Prod.fst) new E) (dM L) g'' ob')) ∧
   At H (π.map Prod.fst) new o' o''∧(o' < (π.map Prod.fst).length→g'' = fQ H (π.map Prod.fst) o' ob'.g):=by
  intro k ob0 hk
  obtain ⟨o',g',ob',q1,q2,q3⟩:=r3.ob k ob0 hk
  have hkl:=(List.getElem?_eq_some_iff.1 hk).1
  have hm:=hmem k hkl
  rw [pK q1] at hm
  obtain ⟨o'',g'',e1,e2,e3,e4⟩:=Qy (τ:=dM L) (new:=new) hnd hlt (show bD E o' = some ob' by simp [bD,q2]) hm
  rw [q3.gen] at e1
  exact ⟨o',g',ob',o'',g'',q1,q2,q3,e1,e2,e3,e4⟩
 generalize hH':dH (dh H (π.map Prod.fst) new E) (dM L) H (π.map Prod.fst) E 0 (π.map Prod.fst) H ++ (new.map fun o=>(bD E o).map (bn (dh H (π.map Prod.fst) new E) (dM L) 0)) = H' at hback
 have Ed:∀ k g0,(kT π' k g0).bind (fun x=>dh H (π.map Prod.fst) new E x.1 x.2) = kT (π'.map fun x=>(dh H (π.map Prod.fst) new E x.1 x.2).getD (0,0)) k g0:=by
  intro k g0
  unfold kT
  rw [List.getElem?_map]
  by_cases hk:k < S'.length
  ·obtain ⟨o',g',ob',o'',g'',q1,_,_,q4,_⟩:=hback k _ (List.getElem?_eq_getElem hk)
   rw [q1]
   simp [q4]
  ·rw [List.getElem?_eq_none (by rw [r3.len];omega)];rfl
 have hat:∀ k o g,(π'.map fun x=>(dh H (π.map Prod.fst) new E x.1 x.2).getD (0,0))[k]? = some (o,g)→k < S'.length∧∃ o' g',π'[k]? = some (o',g')∧dh H (π.map Prod.fst) new E o' g' = some (o,g)∧At H (π.map Prod.fst) new o' o:=by
  intro k o g hk
  rw [List.getElem?_map] at hk
  have hkl:k < S'.length:=by
   refine Classical.byContradiction fun hc=>?_
   rw [List.getElem?_eq_none (by rw [r3.len];omega)] at hk
   cases hk
  obtain ⟨o',g',ob',o'',g'',q1,_,_,q4,_,q6,_⟩:=hback k _ (List.getElem?_eq_getElem hkl)
  rw [q1] at hk
  simp only [Option.map_some,q4,Option.getD_some,Option.some.injEq,Prod.mk.injEq] at hk
  obtain ⟨rfl,rfl⟩:=hk
  exact ⟨hkl,o',g',q1,q4,q6⟩
 refine ⟨π'.map fun x=>(dh H (π.map Prod.fst) new E x.1 x.2).getD (0,0),S',v0,H',dM L,?_,fun k hk=>Vs k (r5 k hk),?_,r4,r6,r11,?_,?_,?_,?_⟩
 ·refine Ev1.of (out:=⟨ex,fr,E⟩) (l:=l) hT hF hb h1 ?_ ?_ he r1 ?_
  ·rw [hr1]
   simp only [Bool.and_eq_true,decide_eq_true_eq]
   exact ⟨List.all_eq_true.2 h2,by omega⟩
  ·rw [hr1,h3,hal,hpl]
   exact hrun
  ·rw [hr1]
   unfold wrap
   simp only [hK,hnew,hL]
   rw [if_pos (List.all_eq_true.2 fun k hk=>by rw [hbt k (hus k hk)];rfl)]
   rw [show (tags (aW l) ++ aG ((List.range (π.map Prod.fst).length).map (bD E)) ++ aG (new.map (bD E))).flatMap (dO L) = [] from List.flatMap_eq_nil_iff.2 fun k hk=>hgo k (hus k hk)]
   simp only [List.filter_nil,strike,hH',Option.some.injEq,Prod.mk.injEq,and_true]
   rw [r2,oH (ρ3:=kT (π'.map fun x=>(dh H (π.map Prod.fst) new E x.1 x.2).getD (0,0))) (τ3:=dM L) Ed (fun _=>rfl)]
 ·refine ⟨by rw [List.length_map,r3.len],?_,?_⟩
  ·intro j k oj gj ok gk e1 e2 e
   obtain ⟨hj,o1,g1,p1,p2,p3⟩:=hat j oj gj e1
   obtain ⟨hk,o2,g2,p4,p5,p6⟩:=hat k ok gk e2
   refine Classical.byContradiction fun hne=>?_
   have ho:o1 ≠ o2:=fun e=>hne (r3.nd j k _ _ _ _ p1 p4 e)
   exact At.inj hnd hlt p3 p6 ho e
  ·intro k ob0 hk
   obtain ⟨o',g',ob',o'',g'',q1,q2,q3,q4,q5,q6,q7⟩:=hback k ob0 hk
   refine ⟨o'',g'',bn (dh H (π.map Prod.fst) new E) (dM L) g'' ob',by rw [List.getElem?_map,q1];simp [q4],q5,⟨?_,rfl,q3.row,q3.ids,?_,?_,?_⟩⟩
   ·simp only [bn]
    rw [oH (ρ:=dh H (π.map Prod.fst) new E) (ρ2:=idN) (τ:=dM L) (τ2:=tz) (ρ3:=dh H (π.map Prod.fst) new E) (τ3:=tz) (fun o g=>by cases dh H (π.map Prod.fst) new E o g <;> rfl) (fun _=>rfl)]
    rw [← oH (ρ:=idN) (τ:=tz) (ρ2:=dh H (π.map Prod.fst) new E) (τ2:=tz) (ρ3:=dh H (π.map Prod.fst) new E) (τ3:=tz) (fun o g=>rfl) (fun _=>rfl) ob'.p]
    rw [q3.p]
    exact oH Ed (fun _=>rfl) ob0.p
   ·intro hr
    obtain ⟨b1,b2,b3⟩:=q3.bx hr
    refine ⟨b1,b2,?_⟩
    by_cases hkS:k < S.length
    ·obtain ⟨g,hg⟩:=r8 k hkS
     rw [q1] at hg
     simp only [Option.some.injEq,Prod.mk.injEq] at hg
     obtain ⟨rfl,rfl⟩:=hg
     obtain ⟨o0,g0,ob1,s1,s2,s3⟩:=hI.at' hkS
     have hrow:=r9 o' _ _ (List.getElem?_eq_getElem hkS) hk
     have hg0:=(s3.bx (by rw [← hrow];exact hr)).2.2
     rw [q7 (by rw [hpl];exact hkS)]
     unfold fQ
     rw [Img.qy s1]
     have:bD H o0 = some ob1:=by simp [bD,s2]
     simp only [this,s3.gen,hg0,q3.gen,b3,if_true]
    ·have:=(QC k (by omega) (List.getElem?_eq_some_iff.1 hk).1).2
     rw [pK q1] at this
     unfold dh at q4
     split at q4
     ·rw [hpl,if_neg (by omega)] at q4
      cases hx:idxOf new o' H.length with
      | none=>rw [hx] at q4;cases q4
      | some x=>rw [hx] at q4;simp at q4;exact q4.2.symm
     ·cases q4
   ·exact Vs _ q3.tg
   ·intro x hx
    simp only [bn] at hx
    rw [jR] at hx
    obtain ⟨y,hy,rfl⟩:=List.mem_map.1 hx
    exact Vs y (q3.tp y hy)
 ·rw [← hH',List.length_append,jk];omega
 ·intro k o g hk
  have hkS:k < S.length:=by
   rw [← hI.len]
   exact (List.getElem?_eq_some_iff.1 hk).1
  obtain ⟨o',g',ob',o'',g'',q1,q2,q3,q4,q5,q6,q7⟩:=hback k _ (List.getElem?_eq_getElem (show k < S'.length by omega))
  refine ⟨g'',?_⟩
  rw [List.getElem?_map,q1]
  obtain ⟨g2,hg2⟩:=r8 k hkS
  rw [q1] at hg2
  simp only [Option.some.injEq,Prod.mk.injEq] at hg2
  obtain ⟨rfl,rfl⟩:=hg2
  simp only [Option.map_some,q4,Option.getD_some,Option.some.injEq,Prod.mk.injEq,and_true]
  rcases q6 with ⟨_,h8⟩ | ⟨h8,_⟩
  ·rw [Img.qy hk] at h8
   exact (Option.some.inj h8).symm
  ·rw [hpl] at h8;omega
 ·intro k o g hk ho
  obtain ⟨hkl,o',g',p1,p2,p3⟩:=hat k o g ho
  have:=(QC k hk hkl).2
  rw [pK p1] at this
  rcases p3 with ⟨h8,_⟩ | ⟨_,i,_,h8⟩
  ·rw [hpl] at h8;omega
  ·omega
 ·intro j hj hjn
  rw [← hH']
  refine Qz hj ?_
  intro hm
  obtain ⟨x,hx,hx2⟩:=List.mem_map.1 hm
  obtain ⟨k,hk,hk2⟩:=List.mem_iff_getElem.1 hx
  exact hjn k x.1 x.2 (by rw [List.getElem?_eq_getElem hk,hk2]) hx2.symm
end
end Go.AM
namespace Go.AM
theorem iF {α:Type} {H:List α} {j:Nat} {y:α} (h:H[j]? = some y):j < H.length:=(List.getElem?_eq_some_iff.1 h).1
theorem setAt {α:Type} {H:List α} {j:Nat} {y x:α} (h:H[j]? = some y):(H.set j x)[j]? = some x:=by
 rw [List.getElem?_set_self (iF h)]
theorem Bz {α:Type} {H:List α} {j k:Nat} {y x:α} (h:H[j]? = some y) (hne:k ≠ j):(H.set k x)[j]? = some y:=by
 rw [List.getElem?_set_ne hne];exact h
section
variable {x p:AV}
theorem PK {o i f g:Nat} (h:ren idN tz x = .sl o i f g):x = .sl o i f g:=by
 cases x <;> simp only [ren,idN,reduceCtorEq] at h <;> exact h
theorem SE {o g:Nat} (h:ren idN tz x = .map o g):x = .map o g:=by
 cases x <;> simp only [ren,idN,reduceCtorEq] at h <;> exact h
theorem RQ {k:IntKind} {n:Int} (h:ren idN tz x = .int k n):x = .int k n:=by
 cases x <;> simp only [ren,idN,reduceCtorEq] at h <;> exact h
theorem PL {l:List UInt8} (h:ren idN tz x = .pb l):x = .pb l:=by
 cases x <;> simp only [ren,idN,reduceCtorEq] at h <;> exact h
theorem PI {c t:Nat} (h:ren idN tz x = .ro c p t):∃ τ,x = .ro c p τ:=by
 cases x <;> simp only [ren,idN,reduceCtorEq,AV.ro.injEq] at h
 obtain ⟨rfl,rfl,_⟩:=h
 exact ⟨_,rfl⟩
theorem Gj {l:List AV} (h:ren idN tz x = .pc l):∃ l',x = .pc l'∧dN idN tz l' = l:=by
 cases x <;> simp only [ren,idN,reduceCtorEq,AV.pc.injEq] at h
 exact ⟨_,rfl,h⟩
theorem U9 {l:List AV} (h:ren idN tz x = .pm l):∃ l',x = .pm l'∧dN idN tz l' = l:=by
 cases x <;> simp only [ren,idN,reduceCtorEq,AV.pm.injEq] at h
 exact ⟨_,rfl,h⟩
theorem pG {a:AV} {l r:List AV} (h:dN idN tz l = a :: r):∃ x l',l = x :: l'∧ren idN tz x = a∧dN idN tz l' = r:=by
 cases l with
 | nil=>simp [dN] at h
 | cons x l' =>
  simp only [dN,List.cons.injEq] at h
  exact ⟨x,l',rfl,h.1,h.2⟩
theorem vV {l:List AV} (h:dN idN tz l = []):l = []:=by
 cases l with
 | nil=>rfl
 | cons x l'=>simp [dN] at h
end
section
variable {C:Ctx} {f:Nat} {H:Heap} {π:List (Nat × Nat)} {K i:Nat} {xs ys:List AV}
end
theorem Leaves.plain {C:Ctx} {rs:List ResultVar} {n:Nat} {S S':List Obj} {Q:List Obj→AV→Prop} {fr:Frame} {E:Heap} {π':List (Nat × Nat)} {l:List AV}
  (hr:bf C fr E rs = some l) (hi:aT l = []) (ht:bW l = []) (hnt:gG l = true) (hI:Img n E π' S') (hok:OkS S') (hl:S.length≤S'.length)
  (hf:∀ k:Nat,k < S.length→∃ g,π'[k]? = some (k,g)) (hrow:∀ (k:Nat) (ob ob':Obj),S[k]? = some ob→S'[k]? = some ob'→ob'.row = ob.row)
  (hR:∀ k,S.length≤k→k < S'.length→k ∈ reach (S'.map some) aJ (List.range S.length) []) (hq:Q S' (aW l)):Leaves C rs n S Q fr E:=by
 have h1:ids (aW l) = []:=by rw [kY hnt];exact hi
 have h2:tags (aW l) = []:=by rw [jP hnt];exact ht
 exact ⟨π',S',aW l,l,hr,(je _ h1 (fun _ _=>rfl)).symm,hI,hok,(by simp [h2]),by simp [h1],hl,hf,hrow,fun k a b=>by rw [h1,List.append_nil];exact hR k a b,hq⟩
end Go.AM
namespace Go.AM
def GN (t:Nat) (H:Heap) (π0:List (Nat × Nat)):List (Nat × Nat)→List Obj→Prop
 | [],[]=>True
 | x :: r,ob0 :: S=>(∃ ob,H[x.1]? = some (some ob)∧Like t π0 x.2 ob0 ob)∧GN t H π0 r S
 | _,_=>False
theorem GN.at' {t:Nat} {H:Heap} {π0:List (Nat × Nat)}:∀ {π:List (Nat × Nat)} {S:List Obj},GN t H π0 π S→∀ (k:Nat) (ob0:Obj),S[k]? = some ob0→∃ o g ob,π[k]? = some (o,g)∧H[o]? = some (some ob)∧Like t π0 g ob0 ob
 | [],[],_,k,ob0,hk=>by simp at hk
 | x :: r,ob1 :: S,h,0,ob0,hk=>by
  obtain ⟨⟨ob,h1,h2⟩,_⟩:=h
  simp at hk
  subst hk
  exact ⟨x.1,x.2,ob,rfl,h1,h2⟩
 | x :: r,ob1 :: S,h,k + 1,ob0,hk=>by
  simpa using GN.at' h.2 k ob0 (by simpa using hk)
 | [],_ :: _,h,_,_,_=>h.elim
 | _ :: _,[],h,_,_,_=>h.elim
theorem GN.len {t:Nat} {H:Heap} {π0:List (Nat × Nat)}:∀ {π:List (Nat × Nat)} {S:List Obj},GN t H π0 π S→π.length = S.length
 | [],[],_=>rfl
 | x :: r,ob1 :: S,h=>by rw [List.length_cons,List.length_cons,GN.len h.2]
 | [],_ :: _,h=>h.elim
 | _ :: _,[],h=>h.elim
theorem Img.ofL {t:Nat} {H:Heap} {π:List (Nat × Nat)} {S:List Obj} (h:GN t H π π S) (hn:(π.map Prod.fst).Nodup):Img t H π S where
 len:=h.len
 nd:=by
  intro j k oj gj ok gk h1 h2 e
  subst e
  have e1:=Img.qy h1
  have e2:=Img.qy h2
  obtain ⟨l1,e1⟩:=List.getElem?_eq_some_iff.1 e1
  obtain ⟨l2,e2⟩:=List.getElem?_eq_some_iff.1 e2
  exact (List.getElem_inj hn).1 (e1.trans e2.symm)
 ob:=h.at'
theorem Like.box {t:Nat} {π:List (Nat × Nat)} {g:Nat} {p0:AV} {cap:Option Nat} {z:Nat} {idb:Bool} {tg0:Nat} {ob:Obj} (h:Like t π g ⟨p0,0,cap,z,false,idb,tg0⟩ ob):g = 0∧∃ p τ,ob = ⟨p,0,cap,z,false,idb,τ⟩∧(τ = 0∨τ = t)∧ren idN tz p = ren (kT π) tz p0∧∀ k ∈ tags p,k = 0∨k = t:=by
 obtain ⟨h1,h2,h3,h4,h5,h6,h7⟩:=h
 obtain ⟨e1,e2,e3⟩:=h5 rfl
 subst e3
 obtain ⟨p,g,cap',z',row,ahI,tg⟩:=ob
 simp only at h2 h3 h4 h6 e1 e2 h1 h7
 subst h2 h3 h4 e1 e2
 exact ⟨rfl,p,tg,rfl,h6,h1,h7⟩
theorem Like.Qj {t:Nat} {π:List (Nat × Nat)} {p p0:AV} {cap:Option Nat} {z:Nat} {idb:Bool} {tg0 τ:Nat} (h:ren idN tz p = ren (kT π) tz p0) (hτ:τ = 0∨τ = t) (ht:∀ k ∈ tags p,k = 0∨k = t):Like t π 0 ⟨p0,0,cap,z,false,idb,tg0⟩ ⟨p,0,cap,z,false,idb,τ⟩ :=
 ⟨h,rfl,rfl,rfl,fun _=>⟨rfl,rfl,rfl⟩,hτ,ht⟩
end Go.AM
