/- IQ to DC: texts of this claim, one behind the other; what each shows stands at its head. -/
import Derived.Test.YtbodincpjijdiaaAm4
import Derived.Test.YtbodincpjijdiaaMg3
set_option linter.unusedSimpArgs false
set_option linter.unusedVariables false
set_option maxRecDepth 100000
set_option maxHeartbeats 8000000
namespace Go.Proofs.Ytbodincpjijdiaa
open Go.AM
section
variable {c:Nat} {b:List UInt8} {mo:Int} {t:Nat} {H:AM.Heap} {o:Nat} {oa:Option Nat} {s:Is}
theorem aaW (s:Is) (r:Bool) (i:Nat):wtF [] i (irS c b mo s r)≤1:=by
 cases r <;> simp [irS,wtF,kids,fK,ids,aC]
theorem RN {f n:Nat} {fn:Func} {code:Code} {xs ys:List AV} {Q:Is→AV→List AV→Prop} (hF:X.P.funcs[f]? = some fn) (hb:fn.body = some code) (hrw:X.rw f 0 = false) (h:IrV c b mo t H o oa s)
  (hA:∀ π K,π.map Prod.fst = o :: oa.toList→fF X f H π K 1 xs ys) (hi:aC ys = []) (hn:xs.length + 2 = n) (hng:n < dn)
  (run:∀ m E oa1,oa1.isSome = oa.isSome→(∀ a,oa1 = some a→a = 1)→E.length = (if oa.isSome then 2 else 1)→IrV c b mo n E 0 oa1 s→∃ code,fn.body = some code∧aj (jG fun fr E'=>∃ s' oa' l ex ps w0,aP X fr E' fn.results.toList = some l∧IrV c b mo n E' 0 oa' s'∧(∀ a,oa1 = some a→oa' = some a) ∧
   dU n E' ex ps∧(∀ p ∈ ps,ids p = []∧tags p = [])∧(0 :: oa'.toList ++ ex.map Prod.fst).Nodup∧(ids w0).length≤1000∧(∀ k ∈ ids w0,k < ex.length)∧(∀ k,k < ex.length→k ∈ ids w0)∧(∀ k ∈ tags w0,k = 0∨k = n)∧aN l = ren (fZ ex) (fun t=>t) w0∧Q s' w0 ps)
   X (evT X) f m code (numbered 0 (coerce X (.ptr 0 0 0 0 :: ys) (aI X f))) E) :
  ∃ H' oa' s' w0 ex ps τf,evT X f (.ptr o 0 0 0 :: xs) H = some (ren (fZ ex) τf w0,H')∧(∀ k ∈ tags w0,τf k = 0∨τf k = t)∧IrV c b mo t H' o oa' s'∧dU t H' ex ps∧(∀ x ∈ ex,H.length≤x.1)∧(o :: oa'.toList ++ ex.map Prod.fst).Nodup∧Q s' w0 ps∧Kpt H H' o oa oa':=by
 obtain ⟨π,hI,hπ,hπ0⟩:=h.img
 have hK:0 < (irS c b mo s oa.isSome).length:=by rw [gB];split <;> omega
 have hA2:fF X f H π (irS c b mo s oa.isSome).length 0 (.ptr o 0 0 0 :: xs) (.ptr 0 0 0 0 :: ys):=fF.ptr hI hrw hπ0 hK (hA π _ hπ)
 have hso:∀ {H:AM.Heap} {t o:Nat} {oa:Option Nat} {s:Is},IrV c b mo t H o oa s→oa.isSome = false→s.o = []:=by
  intro H t o oa s h h1
  cases oa with
  | some a=>cases h1
  | none=>obtain ⟨⟨vo,τ1,τ,_,_,_,ho⟩,_⟩:=h;exact ho.1
 obtain ⟨π'',S',v0,H',τf,hE,hτf,hI',hok',hid,⟨s',w0,ps,r',hS',hv0,hr',hQ,hf,hmono,hiw⟩,hlen,hfix,hnew,hrest⟩:=Ev1.img (C:=X) (T:=evT X) (f:=f) (H:=H) (n:=n) (ys:=.ptr 0 0 0 0 :: ys)
  (Q:=fun S' v0=>∃ s' w0 ps r',S' = irS c b mo s' r' ++ ps.map rwF∧v0 = dw (irS c b mo s' r').length w0∧(r' = false→s'.o = [])∧Q s' w0 ps∧(∀ p ∈ ps,ids p = []∧tags p = [])∧(oa.isSome = true→r' = true)∧∀ k ∈ ids w0,k < ps.length) (bJ X) hF hb hI (Bf c b mo s _) hA2
  (by rw [show aC (AV.ptr 0 0 0 0 :: ys) = [0] by simp [aC,ids,hi]];exact Bg c b mo s _) (by simp;omega) hng (by
   intro E hEl hEI
   obtain ⟨oa1,hV,hπ1,hs1,Ew⟩:=IrV.mP hEI (by rw [pY,if_pos hK]) (hso h)
   have ha1:∀ a,oa1 = some a→a = 1:=by
    intro a ha
    obtain ⟨g,hg⟩:=Ew a ha
    rw [pY] at hg
    split at hg
    ·simp at hg;omega
    ·cases hg
   obtain ⟨nS,hc2,out,hout,hrun⟩:=run (irS c b mo s oa.isSome).length E oa1 hs1 ha1 (by rw [hEl,gB]) hV
   rw [hb] at hc2
   obtain rfl:=atK hc2
   refine ⟨out,⟨hout.1,?_⟩,hrun⟩
   obtain ⟨s',oa',l,ex,ps,w0,hr,hV',hm,C9,hf,hnd,hw0,hw1,hw2,hw3,hw4,hQ⟩:=hout.2
   obtain ⟨π',hI',hπ',Ey⟩:=hV'.img
   have hnd':(π'.map Prod.fst ++ ex.map Prod.fst).Nodup:=by rw [hπ'];exact hnd
   have hI2:=hI'.append (Bf c b mo s' _) C9 hf hnd'
   have hlr:=hI'.len
   have UJ:=C9.len
   have Je:(irS c b mo s' oa'.isSome ++ ps.map rwF).length = (irS c b mo s' oa'.isSome).length + ex.length:=by simp [UJ]
   have aaX:(irS c b mo s oa.isSome).length≤(irS c b mo s' oa'.isSome).length:=by
    rw [gB,gB]
    cases hx:oa1 with
    | none=>rw [← hs1,hx];cases oa'.isSome <;> simp
    | some a=>rw [hm a hx];split <;> simp
   have jH:=RQ (irS c b mo s' oa'.isSome).length w0
   have hfuel:(List.range (irS c b mo s oa.isSome).length ++ ids (dw (irS c b mo s' oa'.isSome).length w0)).length + wtF [] 0 (irS c b mo s' oa'.isSome ++ ps.map rwF)≤aF:=by
    rw [D7,zH,jH]
    have h1:=aaW (c:=c) (b:=b) (mo:=mo) s' oa'.isSome 0
    have h2:(irS c b mo s oa.isSome).length≤2:=by rw [gB];split <;> omega
    simp only [atQ,avT,auJ]
    show _≤100000
    omega
   refine ⟨π' ++ ex,irS c b mo s' oa'.isSome ++ ps.map rwF,dw (irS c b mo s' oa'.isSome).length w0,l,hr,?_,hI2,(Bf c b mo s' _).rows hf,?_,?_,by rw [Je];omega,?_,?_,?_,s',w0,ps,oa'.isSome,rfl,rfl,hso hV',hQ,hf,?_,fun k hk=>by rw [← UJ];exact hw1 k hk⟩
   ·rw [RS hlr];exact hw4
   ·rw [Ez];exact hw3
   ·intro k hk
    rw [jH] at hk
    obtain ⟨k',hk',rfl⟩:=aub.1 hk
    have:=hw1 k' hk'
    rw [Je]
    omega
   ·intro k hk
    rw [gB] at hk
    have hk0:k = 0∨(k = 1∧oa.isSome = true):=by
     split at hk
     ·rename_i hq
      have:k = 0∨k = 1:=by omega
      rcases this with h | h
      ·exact .inl h
      ·exact .inr ⟨h,hq⟩
     ·exact .inl (by omega)
    have ajR:0 < π'.length:=by rw [hlr,gB];split <;> omega
    rcases hk0 with rfl | ⟨rfl,hq⟩
    ·exact ⟨0,by rw [atE ajR];exact Ey⟩
    ·rw [← hs1] at hq
     obtain ⟨a,ha⟩:=aui.1 hq
     have:=ha1 a ha
     subst this
     have UK:=hm 1 ha
     have h1:(π'.map Prod.fst)[1]? = some 1:=by rw [hπ',UK];rfl
     rw [atI] at h1
     cases hp:π'[1]? with
     | none=>rw [hp] at h1;cases h1
     | some x =>
      rw [hp] at h1
      simp at h1
      exact ⟨x.2,by rw [atE (dR hp),hp,← h1]⟩
   ·intro k ob ob' h1 h2
    have hkl:=dR h1
    rw [atE (by omega)] at h2
    cases hx:oa.isSome <;> cases hy:oa'.isSome <;> rw [hx] at h1 <;> rw [hy] at h2
    all_goals
     match k,h1,h2 with
     | 0,h1,h2 =>
      have e1:=atK h1
      have e2:=atK h2
      subst e1 e2;rfl
     | 1,h1,h2=>first | (simp [irS] at h1;done) | (simp [irS] at h2;done) | (
      have e1:=atK h1
      have e2:=atK h2
      subst e1 e2;rfl)
     | k + 2,h1,h2=>simp [irS] at h1
   ·intro k hk1 hk2
    rw [Je] at hk2
    by_cases hkr:k < (irS c b mo s' oa'.isSome).length
    ·have hk:k = 1∧oa'.isSome = true:=by
      rw [gB] at hkr hk1
      cases hx:oa'.isSome
      ·rw [hx] at hkr;simp at hkr;split at hk1 <;> omega
      ·rw [hx] at hkr;simp at hkr;split at hk1
       ·omega
       ·exact ⟨by omega,rfl⟩
     obtain ⟨rfl,hy⟩:=hk
     refine Bh hfuel (x:=0) (ob:=fK c b mo s' (.sl 1 0 s'.o.length 0) 0 0) (og hfuel (auS _ (aug.2 hK)) (by rw [Je];omega)) ?_ (by simp [kids,fK,ids,aC]) (by rw [Je];omega)
     rw [atE (by omega),hy];rfl
    ·refine og hfuel (avd _ ?_) (by rw [Je];omega)
     rw [jH]
     exact aub.2 ⟨k - (irS c b mo s' oa'.isSome).length,hw2 _ (by omega),by omega⟩
   ·intro hq
    rw [← hs1] at hq
    obtain ⟨a,ha⟩:=aui.1 hq
    rw [hm a ha];rfl)
 subst hS' hv0
 obtain ⟨g0,hg0⟩:=hfix 0 o 0 hπ0
 have hI3:=hI'.pre (Bf c b mo s' r')
 have hRw:=hI'.rows hf
 have Oi:g0 = 0:=by
  obtain ⟨o',g',ob,q1,q2,q3⟩:=hI3.ob 0 _ (by cases r' <;> rfl:(irS c b mo s' r')[0]? = some (fK c b mo s' (if r' then .sl 1 0 s'.o.length 0 else .ro 0 .pn 0) 0 0))
  rw [auC] at q1
  split at q1
  ·rw [hg0] at q1
   simp only [atA,atC] at q1
   obtain ⟨_,rfl⟩:=q1
   exact (q3.bx rfl).2.2
  ·cases q1
 subst Oi
 have hrl:0 < (irS c b mo s' r').length:=by rw [gB];split <;> omega
 obtain ⟨oa',hV',KG,hs',hat'⟩:=IrV.mP hI3 (by rw [auC,if_pos hrl];exact hg0) hr'
 rw [Oj] at hE
 have aaX:(irS c b mo s oa.isSome).length≤(irS c b mo s' r').length:=by
  rw [gB,gB]
  cases hx:oa.isSome
  ·simp;split <;> omega
  ·rw [hmono hx];simp
 refine ⟨H',oa',s',w0,_,ps,τf,dQ hE,?_,hV',hRw,?_,?_,hQ,⟨hlen,?_,?_,?_⟩⟩
 ·intro k hk
  exact hτf k (by rw [Ez];exact hk)
 ·intro x hx
  obtain ⟨k,hk,rfl⟩:=avq.1 hx
  rw [List.getElem_drop]
  have hkl:(irS c b mo s' r').length + k < π''.length:=by simp at hk;omega
  exact hnew ((irS c b mo s' r').length + k) _ _ (by omega) (atB hkl)
 ·have:=hI'.nodup
  rw [show π''.map Prod.fst = (π''.take (irS c b mo s' r').length).map Prod.fst ++ (π''.drop (irS c b mo s' r').length).map Prod.fst by rw [← auA,avw],KG] at this
  exact this
 ·intro a ha
  subst ha
  cases oa' with
  | none =>
   have:=hmono rfl
   rw [this] at hs';cases hs'
  | some a' =>
   obtain ⟨g,hg⟩:=hat' a' rfl
   rw [auC] at hg
   split at hg
   ·have h1:(π.map Prod.fst)[1]? = some a:=by rw [hπ];rfl
    rw [atI] at h1
    cases hp:π[1]? with
    | none=>rw [hp] at h1;cases h1
    | some x =>
     rw [hp] at h1
     simp at h1
     obtain ⟨g2,hg2⟩:=hfix 1 x.1 x.2 hp
     rw [hg] at hg2
     simp at hg2
     rw [hg2.1,h1]
   ·cases hg
 ·intro a ha ha'
  subst ha ha'
  obtain ⟨g,hg⟩:=hat' a rfl
  rw [auC] at hg
  split at hg
  ·exact hnew 1 a g (by rw [gB];simp) hg
  ·cases hg
 ·intro j hj hjo hja
  refine hrest j hj ?_
  intro k x g hk e
  have h1:x ∈ π.map Prod.fst:=aub.2 ⟨(x,g),atL hk,rfl⟩
  rw [hπ] at h1
  rcases atX.1 h1 with h1 | h1
  ·exact hjo (e.trans h1)
  ·cases oa with
   | none=>simp at h1
   | some a =>
    simp at h1
    exact hja a rfl (e.trans h1)
end
structure Ws where
 k:Nat
 o:List UInt8
def jy (s:Ws) (vo:AV) (τ:Nat):AM.Obj:=⟨.pc [vo,.int .i64 (s.k:Nat)],0,some 2,1,false,true,τ⟩
def OuW (t:Nat) (H:AM.Heap) (oa:Option Nat) (vo:AV) (l:List UInt8):Prop:=match oa with
 | none=>l = []∧∃ τ,(τ = 0∨τ = t)∧vo = .ro 0 .pn τ
 | some a=>∃ g τ ob,(τ = 0∨τ = t)∧vo = .sl a 0 l.length g∧H[a]? = some (some ob)∧RwT (.pb l) g τ ob
structure WrV (t:Nat) (H:AM.Heap) (o:Nat) (oa:Option Nat) (s:Ws):Prop where
 bx:∃ vo τ,(τ = 0∨τ = t)∧H[o]? = some (some (jy s vo τ))∧OuW t H oa vo s.o
 ne:∀ a,oa = some a→a ≠ o
def wrS (s:Ws):Bool→List AM.Obj
 | false=>[jy s (.ro 0 .pn 0) 0]
 | true=>[jy s (.sl 1 0 s.o.length 0) 0,⟨.pb s.o,0,none,0,true,false,0⟩]
section
variable {t:Nat} {H:AM.Heap} {o:Nat} {oa:Option Nat} {s:Ws}
theorem UL (s:Ws) (r:Bool):OkS (wrS s r):=by
 intro k ob0 hk x hx
 cases r
 ·cases k with
  | zero =>
   obtain rfl:=atK hk
   simp [jy,ids,aC] at hx
  | succ k=>simp [wrS] at hk
 ·match k,hk with
  | 0,hk =>
   obtain rfl:=atK hk
   simp [jy,ids,aC] at hx
   subst hx
   simp [wrS]
  | 1,hk =>
   obtain rfl:=atK hk
   simp [ids] at hx
  | k + 2,hk=>simp [wrS] at hk
theorem oO (s:Ws) (r:Bool):(wrS s r).length = if r then 2 else 1:=by cases r <;> rfl
theorem Hf (s:Ws) (r:Bool):reach ((wrS s r).map some) aF [0] [] = List.range (wrS s r).length:=by
 cases r
 ·exact lS rfl (by simp [jy,ids,aC])
 ·show reach _ (99996 + 1 + 1 + 1 + 1) [0] [] = [0,1]
  simp [wrS,jy,reach,ids,aC]
theorem WrV.img (h:WrV t H o oa s):∃ π,Img t H π (wrS s oa.isSome)∧π.map Prod.fst = o :: oa.toList∧π[0]? = some (o,0):=by
 obtain ⟨⟨vo,τ,hτ,h0,ho⟩,hne⟩:=h
 cases oa with
 | none =>
  obtain ⟨hl,τ2,hτ2,rfl⟩:=ho
  refine ⟨[(o,0)],⟨rfl,?_,?_⟩,rfl,rfl⟩
  ·intro j k oj gj ok gk h1 h2 _
   have:=dR h1;have:=dR h2
   simp at *;omega
  ·intro k ob0 hk
   cases k with
   | succ k=>simp [wrS] at hk
   | zero =>
    obtain rfl:=atK hk
    refine ⟨o,0,_,rfl,h0,⟨?_,rfl,rfl,rfl,fun _=>⟨rfl,rfl,rfl⟩,hτ,?_⟩⟩
    ·simp [jy,ren,bU,tz]
    ·intro k hk
     simp [jy,tags,aX] at hk
     rw [hk]
     exact hτ2
 | some a =>
  obtain ⟨g,τ2,ob,hτ2,rfl,ha,hw⟩:=ho
  have hao:=hne a rfl
  refine ⟨[(o,0),(a,g)],⟨rfl,?_,?_⟩,rfl,rfl⟩
  ·intro j k oj gj ok gk h1 h2 e
   match j,k,h1,h2 with
   | 0,0,_,_=>rfl
   | 1,1,_,_=>rfl
   | 0,1,h1,h2=>simp at h1 h2;omega
   | 1,0,h1,h2=>simp at h1 h2;omega
   | j + 2,_,h1,_=>simp at h1
   | 0,k + 2,_,h2=>simp at h2
   | 1,k + 2,_,h2=>simp at h2
  ·intro k ob0 hk
   match k,hk with
   | 0,hk =>
    obtain rfl:=atK hk
    refine ⟨o,0,_,rfl,h0,⟨?_,rfl,rfl,rfl,fun _=>⟨rfl,rfl,rfl⟩,hτ,?_⟩⟩
    ·simp [jy,ren,bU,tz,fZ,idN]
    ·intro k hk
     simp [jy,tags,aX] at hk
   | 1,hk =>
    obtain rfl:=atK hk
    refine ⟨a,g,ob,rfl,ha,⟨by rw [hw.p];rfl,hw.g,hw.row,hw.ids,(fun h=>by cases h),by rw [hw.tg];exact hτ2,?_⟩⟩
    intro k hk
    rw [hw.p] at hk
    simp [tags] at hk
   | k + 2,hk=>simp [wrS] at hk
theorem WrV.mP {π:List (Nat × Nat)} {r:Bool} (h:Img t H π (wrS s r)) (h0:π[0]? = some (o,0)) (hr:r = false→s.o = []):∃ oa,WrV t H o oa s∧π.map Prod.fst = o :: oa.toList∧oa.isSome = r∧(∀ a,oa = some a→∃ g,π[1]? = some (a,g)):=by
 obtain ⟨o',g',ob,q1,q2,q3⟩:=h.ob 0 _ (by cases r <;> rfl:(wrS s r)[0]? = some (jy s (if r then .sl 1 0 s.o.length 0 else .ro 0 .pn 0) 0))
 rw [h0] at q1
 simp only [atA,atC] at q1
 obtain ⟨rfl,rfl⟩:=q1
 obtain ⟨b1,b2,_⟩:=q3.bx rfl
 obtain ⟨p,g,cap,z,row,idb,tg⟩:=ob
 have r2:=q3.gen;have r3:=q3.row;have r4:=q3.ids;have r5:=q3.tg;have r6:=q3.tp;have r1:=q3.p
 simp only [jy] at r1 r2 r3 r4 r5 r6 b1 b2
 subst r2 r3 r4 b1 b2
 simp only [ren,bU] at r1
 obtain ⟨l1,rfl,k1⟩:=vU r1
 obtain ⟨x3,l2,rfl,e3,k2⟩:=fD k1
 obtain ⟨x2,l3,rfl,e2,k3⟩:=fD k2
 obtain rfl:=oP k3
 obtain rfl:=mQ e2
 cases r with
 | false =>
  simp only [atO,if_false,ren] at e3
  obtain ⟨τ2,rfl⟩:=vV e3
  have hτ2:τ2 = 0∨τ2 = t:=r6 τ2 (by simp [tags,aX])
  have hl:=h.len
  refine ⟨none,⟨⟨_,tg,r5,q2,hr rfl,τ2,hτ2,rfl⟩,fun a h=>by cases h⟩,?_,rfl,fun a h=>by cases h⟩
  match π,hl,h0 with
  | [x],_,h0=>simp at h0;subst h0;rfl
 | true =>
  obtain ⟨a,g,ob,p1,p2,p3⟩:=h.ob 1 _ rfl
  simp only [if_true,ren,fZ,p1] at e3
  obtain rfl:=Bj e3
  have hl:=h.len
  have hne:a ≠ o:=fun e=>by have:=h.nd 1 0 a g o 0 p1 h0 e;omega
  have ep:=p3.p
  simp only [ren] at ep
  refine ⟨some a,⟨⟨_,tg,r5,q2,g,ob.tg,ob,p3.tg,rfl,p2,Jf ep,p3.gen,p3.row,p3.ids,rfl⟩,fun a' h=>by cases h;exact hne⟩,?_,rfl,fun a' h=>by cases h;exact ⟨g,p1⟩⟩
  match π,hl,h0,p1 with
  | [x,y],_,h0,p1=>simp at h0 p1;subst h0 p1;rfl
theorem KH {f n:Nat} {fn:Func} {code:Code} {xs ys:List AV} {Q:Ws→List AV→Bool→Prop} (hF:X.P.funcs[f]? = some fn) (hb:fn.body = some code) (hrw:X.rw f 0 = false) (h:WrV t H o oa s)
  (hA:∀ π K,π.map Prod.fst = o :: oa.toList→fF X f H π K 1 xs ys) (hi:aC ys = []) (hn:xs.length + 2 = n) (hng:n < dn)
  (run:∀ m E,WrV n E 0 (oa.map fun _=>1) s→aj (jG fun fr E'=>∃ s' oa' l,aP X fr E' fn.results.toList = some l∧aC l = []∧aX l = []∧dP l = true∧WrV n E' 0 oa' s'∧(oa ≠ none→oa' = some 1)∧Q s' l oa'.isSome)
   X (evT X) f m code (numbered 0 (coerce X (.ptr 0 0 0 0 :: ys) (aI X f))) E) :
  ∃ H' oa' s' l,evT X f (.ptr o 0 0 0 :: xs) H = some (aN l,H')∧WrV t H' o oa' s'∧Q s' l oa'.isSome∧H.length≤H'.length∧(∀ a,oa = some a→oa' = some a)∧(∀ a,oa = none→oa' = some a→H.length≤a) ∧
   (∀ j,j < H.length→j ≠ o→(∀ a,oa = some a→j ≠ a)→H'[j]? = H[j]?):=by
 obtain ⟨π,hI,hπ,hπ0⟩:=h.img
 have hK:0 < (wrS s oa.isSome).length:=by rw [oO];split <;> omega
 have hA':=(hA π (wrS s oa.isSome).length hπ)
 have hA2:fF X f H π (wrS s oa.isSome).length 0 (.ptr o 0 0 0 :: xs) (.ptr 0 0 0 0 :: ys):=fF.ptr hI hrw hπ0 hK hA'
 have hoa:oa.isSome = false→s.o = []:=by
  intro h1
  cases oa with
  | some a=>cases h1
  | none=>obtain ⟨⟨vo,τ,_,_,ho⟩,_⟩:=h;exact ho.1
 obtain ⟨π'',S',v0,H',τf,hE,hτf,hI',hok',hid,⟨s',l,r',hS',hv0,hr',hQ,hil⟩,hlen,hfix,hnew,hrest⟩:=Ev1.img (C:=X) (T:=evT X) (f:=f) (H:=H) (n:=n) (ys:=.ptr 0 0 0 0 :: ys) (Q:=fun S' v0=>∃ s' l r',S' = wrS s' r'∧v0 = aN l∧(r' = false→s'.o = [])∧Q s' l r'∧aC l = []∧aX l = []∧dP l = true∧(oa.isSome = true→r' = true)) (bJ X) hF hb hI (UL s _) hA2
  (by rw [show aC (AV.ptr 0 0 0 0 :: ys) = [0] by simp [aC,ids,hi]];exact Hf s _) (by simp;omega) hng (by
   intro E hEl hEI
   obtain ⟨oa1,hV,hπ1,hs1,Ew⟩:=WrV.mP hEI (by rw [pY,if_pos hK]) hoa
   have DR:oa1 = oa.map fun _=>1:=by
    cases oa with
    | none=>cases oa1 with
     | none=>rfl
     | some a=>cases hs1
    | some a=>cases oa1 with
     | none=>cases hs1
     | some a1 =>
      obtain ⟨g,hg⟩:=Ew a1 rfl
      rw [pY] at hg
      simp [oO] at hg
      rw [atF,← hg.1]
   rw [DR] at hV
   obtain ⟨out,hout,hrun⟩:=run (wrS s oa.isSome).length E hV
   refine ⟨out,⟨hout.1,?_⟩,hrun⟩
   obtain ⟨s',oa',l,hr,hil,htl,hnt,hV',ho',hQ⟩:=hout.2
   obtain ⟨π',hI',hπ',Ey⟩:=hV'.img
   have UK:oa'.isSome = false→s'.o = []:=by
    intro h1
    cases oa' with
    | some a=>cases h1
    | none=>obtain ⟨⟨vo,τ,_,_,ho⟩,_⟩:=hV';exact ho.1
   refine Leaves.plain hr hil htl hnt hI' (UL s' _) ?_ ?_ ?_ ?_ ⟨s',l,_,rfl,rfl,UK,hQ,hil,htl,hnt,?_⟩
   ·rw [oO,oO]
    cases oa with
    | none=>cases oa'.isSome <;> simp
    | some a=>rw [ho' (by simp)];simp
   ·intro k hk
    cases oa with
    | none =>
     rw [oO] at hk
     simp at hk
     subst hk
     exact ⟨0,Ey⟩
    | some a =>
     rw [oO] at hk
     simp at hk
     have:k = 0∨k = 1:=by omega
     rcases this with rfl | rfl
     ·exact ⟨0,Ey⟩
     ·rw [ho' (by simp)] at hπ'
      have h1:(π'.map Prod.fst)[1]? = some 1:=by rw [hπ'];rfl
      rw [atI] at h1
      cases hp:π'[1]? with
      | none=>rw [hp] at h1;cases h1
      | some x =>
       rw [hp] at h1
       simp at h1
       exact ⟨x.2,by rw [← h1]⟩
   ·intro k ob ob' h1 h2
    cases hx:oa.isSome <;> cases hy:oa'.isSome <;> rw [hx] at h1 <;> rw [hy] at h2
    all_goals
     match k,h1,h2 with
     | 0,h1,h2 =>
      have e1:=atK h1
      have e2:=atK h2
      subst e1 e2;rfl
     | 1,h1,h2=>first | (simp [wrS] at h1;done) | (simp [wrS] at h2;done) | (
      have e1:=atK h1
      have e2:=atK h2
      subst e1 e2;rfl)
     | k + 2,h1,h2=>simp [wrS] at h1
   ·intro k hk1 hk2
    cases hx:oa.isSome <;> cases hy:oa'.isSome <;> rw [hx,oO] at hk1 <;> rw [hy,oO] at hk2 <;> simp at hk1 hk2
    all_goals first | omega | skip
    have:k = 1:=by omega
    subst this
    rw [show List.range (wrS s false).length = [0] from rfl,Hf]
    rw [oO];simp
   ·intro h1
    cases oa with
    | none=>cases h1
    | some a=>rw [ho' (by simp)];rfl)
 subst hS' hv0
 obtain ⟨g0,hg0⟩:=hfix 0 o 0 hπ0
 have Oi:g0 = 0:=by
  obtain ⟨o',g',ob,q1,q2,q3⟩:=hI'.ob 0 _ (by cases r' <;> rfl:(wrS s' r')[0]? = some (jy s' (if r' then .sl 1 0 s'.o.length 0 else .ro 0 .pn 0) 0))
  rw [hg0] at q1
  simp only [atA,atC] at q1
  obtain ⟨_,rfl⟩:=q1
  exact (q3.bx rfl).2.2
 subst Oi
 obtain ⟨oa',hV',KG,hs',hat'⟩:=WrV.mP hI' hg0 hr'
 obtain ⟨hil,htl,hnt,hmono⟩:=hil
 rw [gU (aN l) (by rw [je hnt];exact hil) (fun k hk=>by rw [iH hnt,htl] at hk;cases hk)] at hE
 refine ⟨H',oa',s',l,dQ hE,hV',by rw [hs'];exact hQ,hlen,?_,?_,?_⟩
 ·intro a ha
  subst ha
  cases oa' with
  | none =>
   have:=hmono rfl
   rw [this] at hs';cases hs'
  | some a' =>
   obtain ⟨g,hg⟩:=hat' a' rfl
   have h1:(π.map Prod.fst)[1]? = some a:=by rw [hπ];rfl
   rw [atI] at h1
   cases hp:π[1]? with
   | none=>rw [hp] at h1;cases h1
   | some x =>
    rw [hp] at h1
    simp at h1
    obtain ⟨g2,hg2⟩:=hfix 1 x.1 x.2 hp
    rw [hg] at hg2
    simp at hg2
    rw [hg2.1,h1]
 ·intro a ha ha'
  subst ha ha'
  obtain ⟨g,hg⟩:=hat' a rfl
  exact hnew 1 a g (by rw [oO];simp) hg
 ·intro j hj hjo hja
  refine hrest j hj ?_
  intro k x g hk e
  have h1:x ∈ π.map Prod.fst:=aub.2 ⟨(x,g),atL hk,rfl⟩
  rw [hπ] at h1
  rcases atX.1 h1 with h1 | h1
  ·exact hjo (e.trans h1)
  ·cases oa with
   | none=>simp at h1
   | some a =>
    simp at h1
    exact hja a rfl (e.trans h1)
end
theorem ac4 (x:Int):IntKind.i64.wrap ((AM.bits .i64 x &&& AM.bits .i64 1).toNat:Nat) = ((x % 2).toNat:Nat):=by
 have h1:(AM.bits .i64 1).toNat = 1:=by decide
 have h2:(AM.bits .i64 x).toNat % 2 = (x % 2).toNat:=by
  unfold AM.bits
  rw [av9]
  show (x % 18446744073709551616).toNat % 2 = _
  omega
 rw [avY,h1,av8,h2,wrap_i64 (by omega) (by omega)]
theorem Jg {v:Nat} (h:v < 256):(AM.bits .u8 (v:Int)).toNat = v:=by
 unfold AM.bits
 rw [av9]
 show ((v:Int) % 256).toNat = v
 omega
theorem wu8 {v:Nat} (h:v < 256):IntKind.u8.wrap (v:Int) = (v:Int):=by
 show (v:Int) % 256 = v
 omega
theorem ac5 {u k:Nat} (hu:u < 2) (hk:k < 8):u * 2 ^ k < 256:=by
 have h1:2 ^ k≤2 ^ 7:=auk (by omega) (by omega)
 have:u * 2 ^ k≤1 * 2 ^ 7:=Nat.mul_le_mul (by omega) h1
 omega
def orB (y:UInt8) (x:Int) (k:Nat):UInt8:=UInt8.ofNat (y.toNat ||| (x % 2).toNat * 2 ^ k)
def qc (s:Ws) (x:Int):Ws:=⟨s.k + 1,(if s.k % 8 = 0 then s.o ++ [0] else s.o).set (s.k / 8) (orB ((if s.k % 8 = 0 then s.o ++ [0] else s.o).getD (s.k / 8) 0) x (s.k % 8))⟩
section
variable {t:Nat} {H:AM.Heap} {o:Nat} {oa:Option Nat} {s:Ws}
theorem ac6 {m a g τ τ2:Nat} {x:Int} {ob:AM.Obj} {E:AM.Heap} {y:UInt8} {tl:AM.Frame} (h0:E[0]? = some (some (jy s (.sl a 0 s.o.length g) τ))) (ha:E[a]? = some (some ob)) (hw:RwT (.pb s.o) g τ2 ob) (hk:s.k / 8 < s.o.length) (hy:s.o[s.k / 8]? = some y) (hl:s.k≤10000000) :
  ∃ ob',RwT (.pb (s.o.set (s.k / 8) (orB y x (s.k % 8)))) g τ2 ob'∧∃ code,((Try.f76.body).bind (aB [1,0])) = some code∧Run X (evT X) 76 m code ((0,.ptr 0 0 0 0) :: (1,.int .i64 x) :: tl) E ⟨.normal,[(0,.ptr 0 0 0 0)],upd E a (some ob')⟩:=by
 have q1:=hw.p;have q2:=hw.g;have q4:=hw.ids;have q5:=hw.tg
 simp only [jy] at h0
 have w2:((s.k:Nat):Int).tdiv 8 = ((s.k / 8:Nat):Int):=by rw [auM (by omega)];omega
 have w2':((s.k:Nat):Int) / 8 = ((s.k / 8:Nat):Int):=by omega
 have w3:((s.k:Nat):Int).tmod 8 = ((s.k % 8:Nat):Int):=by rw [au5 (by omega)];omega
 have w3':((s.k:Nat):Int) % 8 = ((s.k % 8:Nat):Int):=by omega
 have w4:IntKind.i64.wrap ((s.k / 8:Nat):Int) = ((s.k / 8:Nat):Int):=wrap_i64 (by omega) (by omega)
 have w5:IntKind.i64.wrap ((s.k % 8:Nat):Int) = ((s.k % 8:Nat):Int):=wrap_i64 (by omega) (by omega)
 have hkI:((s.k / 8:Nat):Int) < (s.o.length:Int):=by omega
 have hkr:s.k % 8 < 8:=Nat.mod_lt _ (by omega)
 have hx2:(x % 2).toNat < 2:=by omega
 have hy2:=y.toNat_lt
 have hsh:=ac5 hx2 hkr
 have hor:y.toNat ||| (x % 2).toNat * 2 ^ (s.k % 8) < 256:=awd (n:=8) hy2 hsh
 have f1:¬ ((s.k % 8:Nat):Int) < 0:=by omega
 have f2:IntKind.u8.wrap (IntKind.u8.wrap (IntKind.i64.wrap ((AM.bits .i64 x &&& AM.bits .i64 1).toNat:Nat)) * 2 ^ min (s.k % 8) 8) = (((x % 2).toNat * 2 ^ (s.k % 8):Nat):Int):=by
  rw [ac4,wu8 (by omega),auR (by omega)]
  have e:(((x % 2).toNat:Nat):Int) * 2 ^ (s.k % 8) = (((x % 2).toNat * 2 ^ (s.k % 8):Nat):Int):=by push_cast;rfl
  rw [e,wu8 hsh]
 have f3:IntKind.u8.wrap ((AM.bits .u8 ((y.toNat:Nat):Int) ||| AM.bits .u8 (((x % 2).toNat * 2 ^ (s.k % 8):Nat):Int)).toNat:Nat) = ((y.toNat ||| (x % 2).toNat * 2 ^ (s.k % 8):Nat):Int):=by
  rw [av4,Jg hy2,Jg hsh,wu8 hor]
 have hwI:((y.toNat ||| (x % 2).toNat * 2 ^ (s.k % 8):Nat):Int) < 256:=by omega
 refine ⟨{ ob with p:=.pb (s.o.set (s.k / 8) (orB y x (s.k % 8))) },⟨rfl,hw.g,hw.row,hw.ids,hw.tg⟩,_,rfl,?_⟩
 unfold orB
 generalize (x % 2).toNat * 2 ^ (s.k % 8) = sh at *
 generalize y.toNat ||| sh = wv at *
 generalize s.k / 8 = kd at *
 generalize s.k % 8 = kr at *
 generalize hN:s.o.length = N at *
 generalize s.o = B at *
 have hτ:(if τ2 = 0 then some 0 else some τ2) = some τ2:=by
  split
  ·rename_i h;rw [h]
  ·rfl
 simp only [go_sem] at f2 f3
 refine ⟨0,?_⟩
 simp [-getElem?_pos,go_sem,eqV,ah,retag,h0,ha,q1,q2,q4,q5,w2,w2',w3,w3',w4,w5,hk,hkI,hy,hN,f1,f2,f3,hwI,hτ]
end
structure Kpw (H H':AM.Heap) (o:Nat) (oa oa':Option Nat):Prop where
 len:H.length≤H'.length
 same:∀ a,oa = some a→oa' = some a
 new:∀ a,oa = none→oa' = some a→H.length≤a
 rest:∀ j,j < H.length→j ≠ o→(∀ a,oa = some a→j ≠ a)→H'[j]? = H[j]?
theorem Kpw.refl (H:AM.Heap) (o:Nat) (oa:Option Nat):Kpw H H o oa oa:=⟨atG _,fun _ h=>h,fun a h h2=>(by rw [h] at h2;cases h2),fun _ _ _ _=>rfl⟩
theorem Kpw.trans {H H1 H2:AM.Heap} {o:Nat} {oa oa1 oa2:Option Nat} (h:Kpw H H1 o oa oa1) (h2:Kpw H1 H2 o oa1 oa2):Kpw H H2 o oa oa2 where
 len:=auN h.len h2.len
 same:=fun a ha=>h2.same a (h.same a ha)
 new:=by
  intro a ha ha2
  cases h1:oa1 with
  | none=>exact auN h.len (h2.new a h1 ha2)
  | some x =>
   have:=h2.same x h1
   rw [ha2] at this
   cases this
   exact h.new a ha h1
 rest:=by
  intro j hj hjo hja
  rw [h2.rest j (auv hj h.len) hjo ?_,h.rest j hj hjo hja]
  intro a ha
  cases h1:oa with
  | none=>have:=h.new a h1 ha;omega
  | some x =>
   have:=h.same x h1
   rw [ha] at this
   cases this
   exact hja a h1
theorem Kpw.upd {H:AM.Heap} {o:Nat} {oa:Option Nat} (x:Option AM.Obj):Kpw H (AM.upd H o x) o oa oa where
 len:=by simp [AM.upd]
 same:=fun _ h=>h
 new:=fun a h h2=>by rw [h] at h2;cases h2
 rest:=fun j hj hjo _=>by unfold AM.upd;rw [atW (auf hjo)]
theorem Kpw.cat {H:AM.Heap} {o:Nat} {oa:Option Nat} (r:AM.Heap):Kpw H (H ++ r) o oa oa where
 len:=by simp
 same:=fun _ h=>h
 new:=fun a h h2=>by rw [h] at h2;cases h2
 rest:=fun j hj hjo _=>atE hj
section
variable {t:Nat} {H:AM.Heap} {o:Nat} {oa:Option Nat} {s:Ws}
theorem OuW.upd {vo:AV} {l:List UInt8} {x:Option AM.Obj} (h:OuW t H oa vo l) (hne:∀ a,oa = some a→a ≠ o):OuW t (AM.upd H o x) oa vo l:=by
 cases oa with
 | none=>exact h
 | some a =>
  obtain ⟨g,τ,ob,h1,h2,h3,h4⟩:=h
  exact ⟨g,τ,ob,h1,h2,qO h3 (auf (hne a rfl)),h4⟩
theorem WrV.set {s':Ws} {vo:AV} {τ:Nat} (hne:∀ a,oa = some a→a ≠ o) (h2:τ = 0∨τ = t) (ho:o < H.length) (hv:OuW t H oa vo s'.o):WrV t (AM.upd H o (some (jy s' vo τ))) o oa s' :=
 ⟨⟨vo,τ,h2,by unfold AM.upd;rw [auF ho],hv.upd hne⟩,hne⟩
theorem WrV.lt (h:WrV t H o oa s):o < H.length∧∀ a,oa = some a→a < H.length:=by
 obtain ⟨⟨vo,τ,_,h0,ho⟩,_⟩:=h
 refine ⟨dR h0,fun a ha=>?_⟩
 subst ha
 obtain ⟨g,τ,ob,_,_,h3,_⟩:=ho
 exact dR h3
theorem WrV.keep {H':AM.Heap} (h:WrV t H o oa s) (h1:H'[o]? = H[o]?) (h2:∀ a,oa = some a→H'[a]? = H[a]?):WrV t H' o oa s:=by
 obtain ⟨⟨vo,τ,a1,h0,ho⟩,hne⟩:=h
 refine ⟨⟨vo,τ,a1,by rw [h1];exact h0,?_⟩,hne⟩
 cases oa with
 | none=>exact ho
 | some a =>
  obtain ⟨g,τ,ob,b1,b2,b3,b4⟩:=ho
  exact ⟨g,τ,ob,b1,b2,by rw [h2 a rfl];exact b3,b4⟩
theorem WrV.cat {r:AM.Heap} (h:WrV t H o oa s):WrV t (H ++ r) o oa s:=h.keep (atE h.lt.1) fun a ha=>atE (h.lt.2 a ha)
theorem WrV.other {j:Nat} {x:Option AM.Obj} (h:WrV t H o oa s) (h1:j ≠ o) (h2:∀ a,oa = some a→j ≠ a):WrV t (AM.upd H j x) o oa s :=
 h.keep (by unfold AM.upd;rw [atW h1]) fun a ha=>by unfold AM.upd;rw [atW (h2 a ha)]
theorem bsW (H:AM.Heap) (y:UInt8):bT X H 22 1 [(0,.int .u8 (y.toNat:Nat))] = some (.ro 1 (.pb [y]) 0,H):=by
 have:=y.toNat_lt
 have h1:(y.toNat:Int) < 256:=by omega
 simp [bT,jk,qP,mkRow,jC,dY,cellsOf,scalars,scalar,aC,ids,aX,tags,dD,h1]
theorem OuW.app {vo:AV} {l:List UInt8} (y:UInt8) (h:OuW t H oa vo l) (hH:0 < H.length) (hne:∀ a,oa = some a→a ≠ 0) (hl:l.length≤10000000):∃ v' H' oa',bH X H 22 vo (.ro 1 (.pb [y]) 0) = some (v',H')∧OuW t H' oa' v' (l ++ [y])∧Kpw H H' 0 oa oa'∧H'[0]? = H[0]?∧(∀ a,oa' = some a→a ≠ 0):=by
 cases oa with
 | none =>
  obtain ⟨rfl,τ,hτ,rfl⟩:=h
  have hat:(H ++ [some (⟨.pb [y],0,none,0,true,false,0⟩:AM.Obj)])[H.length]? = some (some ⟨.pb [y],0,none,0,true,false,0⟩):=by simp
  refine ⟨.sl H.length 0 1 0,H ++ [some ⟨.pb [y],0,none,0,true,false,0⟩],some H.length,?_,⟨0,0,_,.inl rfl,rfl,hat,⟨rfl,rfl,rfl,rfl,rfl⟩⟩,⟨by simp,fun a h=>(by cases h),fun a _ h=>(by cases h;exact atG _),fun j hj _ _=>atE hj⟩,atE hH,fun a h=>by cases h;omega⟩
  simp only [bH,nR,qx,yh]
  simp [iC,jW,ah,mO,dX,nM,bZ,aO]
 | some a =>
  obtain ⟨g,τ,ob,hτ,rfl,ho,hw⟩:=h
  obtain ⟨ob',w1,w2⟩:=zG (C:=X) (T:=22) (e:=5) (src:=.ro 1 (.pb [y]) 0) (m:=[y]) nR DN qx bytes5 yh ho hw (.inl (by simp [iC,jW,mO])) (by simp;omega)
  refine ⟨_,_,some a,w2,⟨g + 1,τ,ob',hτ,by simp,setAt ho,w1⟩,⟨by simp [AM.upd],fun a' h=>h,fun a' h=>(by cases h),fun j hj h0 hja=>by unfold AM.upd;rw [atW (auf (hja a rfl))]⟩,by unfold AM.upd;rw [atW (hne a rfl)],hne⟩
def jD (s:Ws):Prop:=s.o.length = (s.k + 7) / 8
theorem D8 {x:Int} (h:jD s):jD (qc s x):=by
 unfold jD qc at *
 rw [av5]
 simp only
 split
 ·rw [atQ,avp];omega
 ·omega
theorem ac7 {m:Nat} {x:Int} {E:AM.Heap} (h:WrV t E 0 oa s) (hl:s.k≤10000000):∃ code,((Try.f76.body).bind (aB [0,0])) = some code∧Run X (evT X) 76 m code [(0,.ptr 0 0 0 0),(1,.int .i64 x)] E ⟨.normal,[(0,.ptr 0 0 0 0),(1,.int .i64 x),(9,.bool (decide (s.k % 8 = 0)))],E⟩:=by
 refine ⟨_,rfl,?_⟩
 obtain ⟨⟨vo,τ,a1,h0,ho⟩,hne⟩:=id h
 simp only [jy] at h0
 have w3:((s.k:Nat):Int).tmod 8 = ((s.k % 8:Nat):Int):=by rw [au5 (by omega)];omega
 have w3':((s.k:Nat):Int) % 8 = ((s.k % 8:Nat):Int):=by omega
 have w5:IntKind.i64.wrap ((s.k % 8:Nat):Int) = ((s.k % 8:Nat):Int):=wrap_i64 (by omega) (by omega)
 by_cases hz:s.k % 8 = 0
 ·rw [decide_eq_true hz]
  rw [hz] at w3 w3' w5
  (refine ⟨0,?_⟩;simp [-getElem?_pos,go_sem,eqV,ah,h0,w3,w3',w5])
 ·have hzI:¬ ((s.k % 8:Nat):Int) = 0:=by omega
  have hzb:(((s.k % 8:Nat):Int) == 0) = false:=by simpa using hzI
  rw [decide_eq_false hz]
  generalize s.k % 8 = kr at *
  (refine ⟨0,?_⟩;simp [-getElem?_pos,go_sem,eqV,ah,h0,w3,w3',w5,hz,hzI,hzb])
theorem ac8 {m:Nat} {x:Int} {d:Bool} {E:AM.Heap} (h:WrV t E 0 oa s) (hl:s.o.length≤10000000):∃ E' oa',WrV t E' 0 oa' ⟨s.k,s.o ++ [0]⟩∧Kpw E E' 0 oa oa'∧∃ code,((Try.f76.body).bind (aB [0,1,0])) = some code∧Run X (evT X) 76 m code [(0,.ptr 0 0 0 0),(1,.int .i64 x),(9,.bool d)] E ⟨.normal,[(0,.ptr 0 0 0 0),(1,.int .i64 x)],E'⟩:=by
 obtain ⟨⟨vo,τ,a1,h0,ho⟩,hne⟩:=id h
 obtain ⟨v',E',oa',hA,hv',hk,hE0,hne'⟩:=ho.app 0 h.lt.1 hne hl
 have h0':E'[0]? = some (some (jy s vo τ)):=by rw [hE0];exact h0
 have hbs:=bsW E 0
 refine ⟨AM.upd E' 0 (some (jy ⟨s.k,s.o ++ [0]⟩ v' τ)),oa',WrV.set hne' a1 (dR h0') hv',hk.trans (Kpw.upd _),_,rfl,?_⟩
 simp only [jy] at h0 h0' ⊢
 simp only [show ((0:UInt8).toNat:Int) = 0 from rfl] at hbs
 cases oa' with
 | none=>exact absurd hv'.1 (by simp)
 | some a =>
  obtain ⟨g,τ2,ob,_,rfl,_⟩:=hv'
  generalize (s.o ++ [0]).length = N at *
  (refine ⟨0,?_⟩;simp [-getElem?_pos,go_sem,eqV,ah,h0,h0',hbs,hA])
theorem ac9 {m:Nat} {E:AM.Heap} (h:WrV t E 0 oa s) (hl:s.k≤10000000):∃ E',WrV t E' 0 oa ⟨s.k + 1,s.o⟩∧Kpw E E' 0 oa oa∧∃ code,((Try.f76.body).bind (aB [1,1])) = some code∧Run X (evT X) 76 m code [(0,.ptr 0 0 0 0)] E ⟨.normal,[],E'⟩:=by
 obtain ⟨⟨vo,τ,a1,h0,ho⟩,hne⟩:=id h
 refine ⟨AM.upd E 0 (some (jy ⟨s.k + 1,s.o⟩ vo τ)),WrV.set hne a1 (dR h0) ho,Kpw.upd _,_,rfl,?_⟩
 have w1:IntKind.i64.wrap ((s.k:Int) + 1) = ((s.k + 1:Nat):Int):=by rw [wrap_i64 (by omega) (by omega)];omega
 simp only [jy] at h0 ⊢
 generalize s.k + 1 = k1 at *
 (refine ⟨0,?_⟩;simp [-getElem?_pos,go_sem,eqV,ah,h0,w1])
theorem UM {m:Nat} {x:Int} {E:AM.Heap} (h:WrV t E 0 oa s) (hs:jD s) (hl:s.k≤9000000):∃ code,Try.f76.body = some code ∧
  aj (jG fun fr E'=>∃ oa',WrV t E' 0 oa' (qc s x)∧Kpw E E' 0 oa oa') X (evT X) 76 m code [(0,.ptr 0 0 0 0),(1,.int .i64 x)] E:=by
 refine ⟨_,rfl,?_⟩
 have hso:=hs
 unfold jD at hso
 apply aj.assoc
 apply aj.seq (piece (ac7 h (by omega)) _ rfl)
 -- the byte
 have key:∀ {E1:AM.Heap} {oa1:Option Nat} {tl:AM.Frame},WrV t E1 0 oa1 ⟨s.k,if s.k % 8 = 0 then s.o ++ [0] else s.o⟩→Kpw E E1 0 oa oa1→∃ code,((Try.f76.body).bind (aB [1])) = some code∧aj (jG fun fr E'=>∃ oa',WrV t E' 0 oa' (qc s x)∧Kpw E E' 0 oa oa') X (evT X) 76 m code ((0,.ptr 0 0 0 0) :: (1,.int .i64 x) :: tl) E1:=by
  intro E1 oa1 tl hV hk
  refine ⟨_,rfl,?_⟩
  have hB:s.k / 8 < (if s.k % 8 = 0 then s.o ++ [0] else s.o).length:=by
   split
   ·rw [atQ,avp];omega
   ·omega
  have hg:(if s.k % 8 = 0 then s.o ++ [0] else s.o).getD (s.k / 8) 0 = (if s.k % 8 = 0 then s.o ++ [0] else s.o)[s.k / 8]:=by
   rw [atH,atB hB];rfl
  have hbw:qc s x = ⟨s.k + 1,(if s.k % 8 = 0 then s.o ++ [0] else s.o).set (s.k / 8) (orB ((if s.k % 8 = 0 then s.o ++ [0] else s.o)[s.k / 8]) x (s.k % 8))⟩:=by
   unfold qc
   rw [hg]
  rw [hbw]
  generalize (if s.k % 8 = 0 then s.o ++ [0] else s.o) = B at *
  obtain ⟨⟨vo,τ,a1,h0,ho⟩,hne⟩:=id hV
  cases oa1 with
  | none =>
   have:=ho.1
   simp only at this
   subst this
   simp at hB
  | some a =>
   obtain ⟨g,τ2,ob,hτ2,rfl,h3,h4⟩:=ho
   obtain ⟨ob',w1,hr2⟩:=ac6 (m:=m) (s:=⟨s.k,B⟩) (x:=x) (tl:=tl) (y:=B[s.k / 8]) h0 h3 h4 hB (atB hB) (by simp only;omega)
   have hV2:WrV t (upd E1 a (some ob')) 0 (some a) ⟨s.k,B.set (s.k / 8) (orB (B[s.k / 8]) x (s.k % 8))⟩ :=
    ⟨⟨_,τ,a1,qO h0 (hne a rfl),g,τ2,ob',hτ2,by simp,setAt h3,w1⟩,hne⟩
   obtain ⟨E3,hV3,hk3,hr3⟩:=ac9 (m:=m) hV2 (by simp only;omega)
   have hk2:Kpw E (upd E1 a (some ob')) 0 oa (some a):=by
    refine ⟨by have:=hk.len;simpa [AM.upd] using this,hk.same,hk.new,?_⟩
    intro j hj h1 h2
    have hja:j ≠ a:=by
     intro e
     subst e
     cases hq:oa with
     | none=>have:=hk.new j hq rfl;omega
     | some z=>have:=hk.same z hq;cases this;exact h2 _ hq rfl
    unfold AM.upd
    rw [atW (auf hja)]
    exact hk.rest j hj h1 h2
   refine aj.of (o:=⟨.normal,[],E3⟩) ?_ ⟨.inl rfl,_,hV3,hk2.trans hk3⟩
   exact Run.seq (piece hr2 _ rfl) (piece hr3 _ rfl)
 by_cases hz:s.k % 8 = 0
 ·obtain ⟨E1,oa1,hV1,hk1,hr1⟩:=ac8 (m:=m) (x:=x) (d:=decide (s.k % 8 = 0)) h (by omega)
  apply aj.seq (fr':=[(0,.ptr 0 0 0 0),(1,.int .i64 x)]) (H':=E1)
  ·refine Run.cond (d:=true) (by simp [aJ,ay,hz]) ?_
   exact piece hr1 _ rfl
  refine piece (key (tl:=[]) ?_ hk1) _ rfl
  rw [if_pos hz]
  exact hV1
 ·apply aj.seq (fr':=[(0,.ptr 0 0 0 0),(1,.int .i64 x),(9,.bool (decide (s.k % 8 = 0)))]) (H':=E)
  ·exact Run.cond (d:=false) (by simp [aJ,ay,hz]) ⟨0,rfl⟩
  refine piece (key ?_ (Kpw.refl E 0 oa)) _ rfl
  rw [if_neg hz]
  exact h
theorem UN {x:Int} (h:WrV t H o oa s) (hs:jD s) (hl:s.k≤9000000):∃ H' oa',evT X 76 [.ptr o 0 0 0,.int .i64 x] H = some (.tup [],H')∧WrV t H' o oa' (qc s x)∧Kpw H H' o oa oa':=by
 obtain ⟨code,hc⟩:∃ code,Try.f76.body = some code:=⟨_,rfl⟩
 obtain ⟨H',oa',s',l,hE,hV,⟨rfl,rfl⟩,h1,h2,h3,h4⟩:=KH (f:=76) (n:=3) (xs:=[.int .i64 x]) (ys:=[.int .i64 x]) (Q:=fun s' l r=>s' = qc s x∧l = []) Try.func76 hc rfl h (fun π K _=>fF.flat rfl rfl fF.nil) rfl rfl (by simp [dn]) (by
  intro m E hE
  obtain ⟨nS,hc2,ht⟩:=UM (m:=m) (x:=x) hE hs hl
  rw [hc] at hc2
  obtain rfl:=atK hc2
  rw [ada]
  refine ht.mono fun out ho=>⟨ho.1,?_⟩
  obtain ⟨oa',q1,q2⟩:=ho.2
  refine ⟨_,oa',[],rfl,rfl,rfl,rfl,q1,fun hn=>?_,rfl,rfl⟩
  cases oa with
  | none=>exact absurd rfl hn
  | some a=>exact q2.same 1 rfl)
 exact ⟨H',oa',hE,hV,⟨h1,h2,h3,h4⟩⟩
end
def cZ (s:Ws) (x:Int):Nat→Ws
 | 0=>s
 | n + 1=>qc (cZ s x n) (x / 2 ^ n)
def rX (s:Ws) (x:Int):Nat→Ws
 | 0=>s
 | n + 1=>rX (qc s (x / 2 ^ n)) x n
theorem eu {s:Ws} {x:Int} (h:jD s):∀ n,jD (cZ s x n)∧(cZ s x n).k = s.k + n
 | 0=>⟨h,rfl⟩
 | n + 1=>by
  obtain ⟨h1,h2⟩:=eu h n
  exact ⟨D8 h1,by simp only [cZ,qc,h2];omega⟩
theorem EC {x:Int}:∀ (n:Nat) {s:Ws},jD s→jD (rX s x n)∧(rX s x n).k = s.k + n
 | 0,_,h=>⟨h,rfl⟩
 | n + 1,s,h=>by
  obtain ⟨h1,h2⟩:=EC n (D8 (x:=x / 2 ^ n) h)
  have hk:(qc s (x / 2 ^ n)).k = s.k + 1:=rfl
  exact ⟨h1,by show (rX (qc s (x / 2 ^ n)) x n).k = _;rw [h2,hk];omega⟩
theorem UO {x:Int} {i:Nat} (hi:i≤60):x.fdiv (2 ^ min i 64) = x / 2 ^ i:=by
 rw [auR (by omega)]
 exact auG _ (Int.le_of_lt (avS (by omega)))
section
variable {t:Nat} {H:AM.Heap} {o:Nat} {oa:Option Nat} {s:Ws}
def yj (x:Int) (n i:Nat):AM.Frame:=[(0,.ptr 0 0 0 0),(1,.int .i64 x),(7,.int .i64 (n:Nat)),(8,.int .i64 (i:Nat))]
theorem adb {m n i:Nat} {x:Int} {E:AM.Heap} (h:WrV t E 0 oa s) (hs:jD s) (hl:s.k≤9000000) (hi:i≤60):∃ E' oa',WrV t E' 0 oa' (qc s (x / 2 ^ i))∧Kpw E E' 0 oa oa'∧∃ code,((Try.f55.body).bind (aB [1,0,0,1,1])) = some code∧Run X (evT X) 55 m code (yj x n i ++ [(9,.bool true)]) E ⟨.normal,yj x n (i + 1),E'⟩:=by
 obtain ⟨E',oa',g1,g2,g3⟩:=UN (x:=x / 2 ^ i) h hs hl
 refine ⟨E',oa',g2,g3,_,rfl,?_⟩
 have w1:IntKind.i64.wrap ((i:Int) + 1) = ((i + 1:Nat):Int):=by rw [wrap_i64 (by omega) (by omega)];omega
 have hi0:¬ (i:Int) < 0:=by omega
 have w2:=UO (x:=x) hi
 apply Run.seq (fr':=yj x n i) (H':=E')
 ·apply Run.block
  ·apply Run.seq (fr':=[(0,.ptr 0 0 0 0),(1,.int .i64 x),(6,.int .i64 (i:Nat)),(7,.int .i64 (n:Nat)),(8,.int .i64 (i:Nat))]) (H':=E)
   ·simp only [yj]
    (refine ⟨0,?_⟩;simp [-getElem?_pos,go_sem,eqV,ah,ak])
   ·simp only [yj]
    (refine ⟨0,?_⟩;simp [-getElem?_pos,go_sem,eqV,ah,g1,hi0,w2])
  ·simp
 ·generalize i + 1 = i1 at *
  simp only [yj]
  (refine ⟨0,?_⟩;simp [-getElem?_pos,go_sem,eqV,ah,w1])
theorem KI {m n:Nat} {x:Int} {E:AM.Heap} (h:WrV t E 0 oa s) (hs:jD s) (hl:s.k≤8000000) (hn:n≤60):∃ code,Try.f55.body = some code ∧
  aj (jG fun fr E'=>∃ oa',WrV t E' 0 oa' (cZ s x n)∧Kpw E E' 0 oa oa') X (evT X) 55 m code [(0,.ptr 0 0 0 0),(1,.int .i64 x),(2,.int .i64 (n:Nat))] E:=by
 refine ⟨_,rfl,?_⟩
 apply aj.seq (fr':=yj x n 0) (H':=E)
 ·simp only [yj]
  (refine ⟨0,?_⟩;simp [-getElem?_pos,go_sem,eqV,ah])
 refine aj.mono (Q:=Goes fun fr E'=>∃ oa',WrV t E' 0 oa' (cZ s x n)∧Kpw E E' 0 oa oa') ?_ fun o ho=>⟨.inl ho.1,ho.2⟩
 apply aj.block
 refine aj.kQ (I:=fun q fr E'=>∃ i oa',i≤n∧q = n - i∧fr = yj x n i∧WrV t E' 0 oa' (cZ s x i)∧Kpw E E' 0 oa oa') ?_ (k:=n) ⟨0,oa,by omega,rfl,rfl,h,Kpw.refl E 0 oa⟩
 rintro q fr E' ⟨i,oa',hi,rfl,rfl,hV,hk⟩
 by_cases hin:i = n
 ·subst hin
  refine aj.of (o:=⟨.exit 0,yj x i i ++ [(9,.bool false)],E'⟩) ?_ (.inr ⟨by simp,rfl,oa',hV,hk⟩)
  refine ⟨0,?_⟩
  simp only [yj]
  simp [-getElem?_pos,go_sem,eqV,ah]
 ·have hlt:i < n:=by omega
  have qQ:(i:Int) < (n:Int):=by omega
  obtain ⟨f1,f2⟩:=eu (x:=x) hs i
  obtain ⟨E2,oa2,h1,h2,hr⟩:=adb (m:=m) (n:=n) (i:=i) (x:=x) hV f1 (by omega) (by omega)
  refine aj.of (o:=⟨.normal,yj x n (i + 1),E2⟩) ?_ (.inl ⟨rfl,n - (i + 1),by omega,i + 1,oa2,by omega,rfl,rfl,h1,hk.trans h2⟩)
  apply Run.seq (fr':=yj x n i ++ [(9,.bool true)]) (H':=E')
  ·simp only [yj]
   (refine ⟨0,?_⟩;simp [-getElem?_pos,go_sem,eqV,ah,qQ,hlt])
  apply Run.seq (fr':=yj x n i ++ [(9,.bool true)]) (H':=E')
  ·exact Run.cond (d:=true) (by simp [yj,aJ,ay]) ⟨0,rfl⟩
  exact piece hr _ rfl
def Bl (x:Int) (I:Int):AM.Frame:=[(0,.ptr 0 0 0 0),(1,.int .i64 x),(6,.int .i64 I)]
theorem Ol {m n:Nat} {x:Int} {E:AM.Heap} (h:WrV t E 0 oa s) (hs:jD s) (hl:s.k≤8000000) (hn:n≤60):∃ code,Try.f56.body = some code ∧
  aj (jG fun fr E'=>∃ oa',WrV t E' 0 oa' (rX s x n)∧Kpw E E' 0 oa oa') X (evT X) 56 m code [(0,.ptr 0 0 0 0),(1,.int .i64 x),(2,.int .i64 (n:Nat))] E:=by
 refine ⟨_,rfl,?_⟩
 apply aj.seq (fr':=Bl x ((n:Int) - 1)) (H':=E)
 ·have w1:IntKind.i64.wrap ((n:Int) - 1) = (n:Int) - 1:=by rw [wrap_i64 (by omega) (by omega)]
  simp only [Bl]
  (refine ⟨0,?_⟩;simp [-getElem?_pos,go_sem,eqV,ah,w1,ak])
 refine aj.mono (Q:=Goes fun fr E'=>∃ oa',WrV t E' 0 oa' (rX s x n)∧Kpw E E' 0 oa oa') ?_ fun o ho=>⟨.inl ho.1,ho.2⟩
 apply aj.block
 refine aj.kQ (I:=fun q fr E'=>∃ oa' s',q≤n∧s'.k + q = s.k + n∧jD s'∧fr = Bl x ((q:Int) - 1)∧WrV t E' 0 oa' s'∧Kpw E E' 0 oa oa'∧rX s' x q = rX s x n) ?_ (k:=n) ⟨oa,s,by omega,rfl,hs,rfl,h,Kpw.refl E 0 oa,rfl⟩
 rintro q fr E' ⟨oa',s',hq,hkk,hs',rfl,hV,hk,hc⟩
 cases q with
 | zero =>
  refine aj.of (o:=⟨.exit 0,Bl x (((0:Nat):Int) - 1) ++ [(10,.bool false)],E'⟩) ?_ (.inr ⟨by simp,rfl,oa',by rw [← hc];exact hV,hk⟩)
  have e1:(((0:Nat):Int) - 1) = -1:=rfl
  rw [e1]
  refine ⟨0,?_⟩
  simp only [Bl]
  simp [-getElem?_pos,go_sem,eqV,ah]
 | succ q =>
  have e1:(((q + 1:Nat):Int) - 1) = (q:Nat):=by omega
  rw [e1]
  obtain ⟨E2,oa2,g1,g2,g3⟩:=UN (x:=x / 2 ^ q) hV hs' (by omega)
  refine aj.of (o:=⟨.normal,Bl x ((q:Int) - 1),E2⟩) ?_ (.inl ⟨rfl,q,by omega,oa2,qc s' (x / 2 ^ q),by omega,by simp only [qc];omega,D8 hs',rfl,g2,hk.trans g3,hc⟩)
  have w1:IntKind.i64.wrap ((q:Int) - 1) = (q:Int) - 1:=by rw [wrap_i64 (by omega) (by omega)]
  have hq0:¬ (q:Int) < 0:=by omega
  have hq1:(0:Int)≤(q:Int):=by omega
  have w2:=UO (x:=x) (i:=q) (by omega)
  apply Run.seq (fr':=Bl x (q:Nat) ++ [(10,.bool true)]) (H':=E')
  ·apply Run.seq (fr':=Bl x (q:Nat) ++ [(10,.bool true)]) (H':=E')
   ·simp only [Bl]
    (refine ⟨0,?_⟩;simp [-getElem?_pos,go_sem,eqV,ah,hq1])
   ·exact Run.cond (d:=true) (by simp [Bl,aJ,ay]) ⟨0,rfl⟩
  apply Run.seq (fr':=Bl x (q:Nat)) (H':=E2)
  ·apply Run.block
   ·simp only [Bl]
    (refine ⟨0,?_⟩;simp [-getElem?_pos,go_sem,eqV,ah,g1,hq0,w2])
   ·simp
  ·simp only [Bl]
   (refine ⟨0,?_⟩;simp [-getElem?_pos,go_sem,eqV,ah,w1,ak])
theorem Qk {f n:Nat} {fn:Func} {code:Code} {xs ys:List AV} {s':Ws} (hF:X.P.funcs[f]? = some fn) (hb:fn.body = some code) (hrw:X.rw f 0 = false) (h:WrV t H o oa s)
  (hA:∀ π K,π.map Prod.fst = o :: oa.toList→fF X f H π K 1 xs ys) (hi:aC ys = []) (hn:xs.length + 2 = n) (hng:n < dn) (hr:fn.results.toList = [])
  (run:∀ m E oa1,WrV n E 0 oa1 s→∃ code,fn.body = some code∧aj (jG fun fr E'=>∃ oa',WrV n E' 0 oa' s'∧Kpw E E' 0 oa1 oa') X (evT X) f m code (numbered 0 (coerce X (.ptr 0 0 0 0 :: ys) (aI X f))) E) :
  ∃ H' oa',evT X f (.ptr o 0 0 0 :: xs) H = some (.tup [],H')∧WrV t H' o oa' s'∧Kpw H H' o oa oa':=by
 obtain ⟨H',oa',s2,l,hE,hV,⟨rfl,rfl⟩,h1,h2,h3,h4⟩:=KH (Q:=fun s2 l r=>s2 = s'∧l = []) hF hb hrw h hA hi hn hng (by
  intro m E hE
  obtain ⟨nS,hc2,ht⟩:=run m E _ hE
  rw [hb] at hc2
  obtain rfl:=atK hc2
  refine ht.mono fun out ho=>⟨ho.1,?_⟩
  obtain ⟨oa',q1,q2⟩:=ho.2
  refine ⟨_,oa',[],by rw [hr];rfl,rfl,rfl,rfl,q1,fun hn=>?_,rfl,rfl⟩
  cases oa with
  | none=>exact absurd rfl hn
  | some a=>exact q2.same 1 rfl)
 exact ⟨H',oa',hE,hV,⟨h1,h2,h3,h4⟩⟩
theorem oh {x I:Int} {n:Nat} (hI:I = (n:Nat)) (h:WrV t H o oa s) (hs:jD s) (hl:s.k≤8000000) (hn:n≤60):∃ H' oa',evT X 55 [.ptr o 0 0 0,.int .i64 x,.int .i64 I] H = some (.tup [],H')∧WrV t H' o oa' (cZ s x n)∧Kpw H H' o oa oa':=by
 subst hI
 obtain ⟨code,hc⟩:∃ code,Try.f55.body = some code:=⟨_,rfl⟩
 exact Qk (n:=4) (xs:=[.int .i64 x,.int .i64 (n:Nat)]) (ys:=[.int .i64 x,.int .i64 (n:Nat)]) Try.func55 hc rfl h (fun π K _=>fF.flat rfl rfl (fF.flat rfl rfl fF.nil)) rfl rfl (by simp [dn]) rfl fun m E oa1 hE=>by
  obtain ⟨nS,hc2,ht⟩:=KI (m:=m) (x:=x) hE hs hl hn
  rw [ade]
  exact ⟨nS,hc2,ht⟩
theorem zI {x I:Int} {n:Nat} (hI:I = (n:Nat)) (h:WrV t H o oa s) (hs:jD s) (hl:s.k≤8000000) (hn:n≤60):∃ H' oa',evT X 56 [.ptr o 0 0 0,.int .i64 x,.int .i64 I] H = some (.tup [],H')∧WrV t H' o oa' (rX s x n)∧Kpw H H' o oa oa':=by
 subst hI
 obtain ⟨code,hc⟩:∃ code,Try.f56.body = some code:=⟨_,rfl⟩
 exact Qk (n:=4) (xs:=[.int .i64 x,.int .i64 (n:Nat)]) (ys:=[.int .i64 x,.int .i64 (n:Nat)]) Try.func56 hc rfl h (fun π K _=>fF.flat rfl rfl (fF.flat rfl rfl fF.nil)) rfl rfl (by simp [dn]) rfl fun m E oa1 hE=>by
  obtain ⟨nS,hc2,ht⟩:=Ol (m:=m) (x:=x) hE hs hl hn
  rw [adf]
  exact ⟨nS,hc2,ht⟩
end
def eX (b:List UInt8) (i k:Nat):Nat→Nat→Nat
 | 0,n=>n
 | f + 1,n=>if n < 258∧k + n < b.length∧b[i + n]? = b[k + n]? then eX b i k f (n + 1) else n
section
variable {c:Nat} {b:List UInt8}
def Bo (c:Nat) (b:List UInt8) (i k n:Nat):AM.Frame:=[(0,.ro c (.pb b) 1),(1,.int .i64 (i:Nat)),(2,.int .i64 (k:Nat)),(7,.int .i64 (n:Nat))]
theorem adg {m i k n:Nat} {E:AM.Heap} (hi:i < k) (hn:n≤258) (hb:b.length≤100000) (hk:k≤100000):∃ code,((Try.f60.body).bind (aB [1,1,0,0,0,0,0])) = some code∧Run X (evT X) 60 m code (Bo c b i k n) E ⟨.normal,Bo c b i k n ++ [(32,.bool (decide (n < 258∧k + n < b.length∧b[i + n]? = b[k + n]?)))],E⟩:=by
 refine ⟨_,rfl,?_⟩
 simp only [Bo]
 by_cases h1:n < 258
 ·have h1I:(n:Int) < 258:=by omega
  have w1:IntKind.i64.wrap ((k:Int) + (n:Int)) = ((k + n:Nat):Int):=by rw [wrap_i64 (by omega) (by omega)];omega
  have w2:IntKind.i64.wrap ((i:Int) + (n:Int)) = ((i + n:Nat):Int):=by rw [wrap_i64 (by omega) (by omega)];omega
  by_cases h2:k + n < b.length
  ·have h2I:((k + n:Nat):Int) < (b.length:Int):=by omega
   have h3I:((i + n:Nat):Int) < (b.length:Int):=by omega
   have h3:i + n < b.length:=by omega
   obtain ⟨x,hx⟩:∃ x,b[i + n]? = some x:=⟨_,atB h3⟩
   obtain ⟨y,hy⟩:∃ y,b[k + n]? = some y:=⟨_,atB h2⟩
   rw [hx,hy]
   by_cases hxy:x = y
   ·subst hxy
    rw [show decide (n < 258∧k + n < b.length∧some x = some x) = true by simp [h1,h2]]
    generalize k + n = kn at *
    generalize i + n = n2 at *
    (refine ⟨0,?_⟩;simp [-getElem?_pos,go_sem,eqV,ah,h1,h1I,w1,w2,h2,h2I,h3,h3I,hx,hy])
   ·rw [show decide (n < 258∧k + n < b.length∧some x = some y) = false by simp [hxy]]
    have hxI:¬ (x.toNat:Int) = (y.toNat:Int):=fun h=>hxy (UInt8.toNat_inj.1 (by omega))
    have hxN:¬ x.toNat = y.toNat:=fun h=>hxy (UInt8.toNat_inj.1 h)
    generalize k + n = kn at *
    generalize i + n = n2 at *
    (refine ⟨0,?_⟩;simp [-getElem?_pos,go_sem,eqV,ah,h1,h1I,w1,w2,h2,h2I,h3,h3I,hx,hy,hxI,hxN])
  ·have h2I:¬ ((k + n:Nat):Int) < (b.length:Int):=by omega
   rw [show decide (n < 258∧k + n < b.length∧b[i + n]? = b[k + n]?) = false by simp [h2]]
   generalize k + n = kn at *
   (refine ⟨0,?_⟩;simp [-getElem?_pos,go_sem,eqV,ah,h1,h1I,w1,w2,h2,h2I])
 ·have h1I:¬ (n:Int) < 258:=by omega
  rw [show decide (n < 258∧k + n < b.length∧b[i + n]? = b[k + n]?) = false by simp [h1]]
  (refine ⟨0,?_⟩;simp [-getElem?_pos,go_sem,eqV,ah,h1,h1I])
theorem Om {i k n:Nat} (h:n < 258∧k + n < b.length∧b[i + n]? = b[k + n]?):eX b i k (258 - n) n = eX b i k (258 - (n + 1)) (n + 1):=by
 obtain ⟨f,hf⟩:∃ f,258 - n = f + 1:=⟨258 - (n + 1),by omega⟩
 rw [hf,eX,if_pos h,show 258 - (n + 1) = f by omega]
theorem RU {i k n:Nat} (h:¬ (n < 258∧k + n < b.length∧b[i + n]? = b[k + n]?)):∀ f,eX b i k f n = n
 | 0=>rfl
 | f + 1=>by rw [eX,if_neg h]
theorem RX {m i k:Nat} {E:AM.Heap} (hi:i < k) (hb:b.length≤100000) (hk:k≤100000):∃ code,Try.f60.body = some code ∧
  Run X (evT X) 60 m code [(0,.ro c (.pb b) 1),(1,.int .i64 (i:Nat)),(2,.int .i64 (k:Nat))] E ⟨.ret,[(6,.int .i64 (eX b i k 258 0:Nat))],E⟩:=by
 refine ⟨_,rfl,?_⟩
 suffices hT:aj (fun o=>o = ⟨.ret,[(6,.int .i64 (eX b i k 258 0:Nat))],E⟩) X (evT X) 60 m _ [(0,.ro c (.pb b) 1),(1,.int .i64 (i:Nat)),(2,.int .i64 (k:Nat))] E by
  obtain ⟨o,rfl,hr⟩:=hT
  exact hr
 apply aj.seq (fr':=[(0,.ro c (.pb b) 1),(1,.int .i64 (i:Nat)),(2,.int .i64 (k:Nat))]) (H':=E)
 ·(refine ⟨0,?_⟩;simp [-getElem?_pos,go_sem,eqV,ah])
 apply aj.seq (fr':=Bo c b i k 0) (H':=E)
 ·simp only [Bo]
  (refine ⟨0,?_⟩;simp [-getElem?_pos,go_sem,eqV,ah,ak])
 apply aj.andThen (P:=fun fr H=>fr = Bo c b i k (eX b i k 258 0) ++ [(32,.bool false)]∧H = E)
 ·apply aj.block
  refine aj.loop (σ:=Nat) (fun n=>n≤258∧eX b i k (258 - n) n = eX b i k 258 0) (fun n=>Bo c b i k n) (fun _=>E) (fun n=>258 - n) ?_ 0 ⟨by omega,rfl⟩
  rintro n ⟨hn,he⟩
  have h2:=adg (m:=m) (c:=c) (E:=E) hi hn hb hk
  by_cases hc:n < 258∧k + n < b.length∧b[i + n]? = b[k + n]?
  ·left
   refine ⟨n + 1,⟨by omega,by rw [← Om hc];exact he⟩,?_,by omega⟩
   rw [decide_eq_true hc] at h2
   apply Run.seq (fr':=Bo c b i k n ++ [(32,.bool true)]) (H':=E)
   ·apply Run.seq (piece h2 _ rfl)
    refine Run.cond (d:=true) (by simp [Bo,aJ,ay]) ⟨0,rfl⟩
   ·apply Run.block
    ·have w1:IntKind.i64.wrap ((n:Int) + 1) = ((n + 1:Nat):Int):=by rw [wrap_i64 (by omega) (by omega)];omega
     simp only [Bo]
     (refine ⟨0,?_⟩;simp [-getElem?_pos,go_sem,eqV,ah,w1,ak])
    ·simp
  ·right
   rw [decide_eq_false hc] at h2
   refine ⟨⟨.exit 0,Bo c b i k n ++ [(32,.bool false)],E⟩,⟨rfl,by rw [← he,RU hc],rfl⟩,by simp,?_⟩
   refine Run.bI ?_ (by simp)
   apply Run.seq (piece h2 _ rfl)
   refine Run.cond (d:=false) (by simp [Bo,aJ,ay]) ⟨0,rfl⟩
 rintro fr H ⟨rfl,rfl⟩
 generalize eX b i k 258 0 = n at *
 refine aj.of (o:=⟨.ret,[(6,.int .i64 (n:Nat))],H⟩) ?_ rfl
 refine ⟨0,?_⟩
 simp only [Bo]
 simp [-getElem?_pos,go_sem,eqV,ah,ak]
theorem YB {H:AM.Heap} {a:AV} {i k:Nat} (ha:fC H a = some (.pb b)) (hi:i < k) (hb:b.length≤100000) (hk:k≤100000):evT X 60 [a,.int .i64 (i:Nat),.int .i64 (k:Nat)] H = some (.int .i64 (eX b i k 258 0:Nat),H):=by
 have h3:=fV (C:=X) (f:=60) (i:=2) (a:=.int .i64 (k:Nat)) (H:=H) rfl rfl (dW 3)
 have h2:=fV (C:=X) (f:=60) (i:=1) (a:=.int .i64 (i:Nat)) (H:=H) rfl rfl h3
 obtain ⟨c,x,hx⟩:=gV (C:=X) (f:=60) (i:=0) rfl ha h2
 obtain ⟨code,hc,hr⟩:=RX (m:=0) (c:=c) (b:=b) (E:=[]) hi hb hk
 refine dQ (Ev1.tY (l:=[.int .i64 (eX b i k 258 0:Nat)]) (bJ X) Try.func60 hc hx rfl (by simp [dn]) rfl rfl rfl ?_)
 rw [adh]
 exact ⟨_,⟨rfl,rfl⟩,hr⟩
end
abbrev Pls:=List (List UInt8 × List Nat)
def bxN (v:AV) (τ:Nat):AM.Obj:=⟨.pc [v],0,some 1,1,false,true,τ⟩
def pmO (l:List AV) (τ:Nat):AM.Obj:=⟨.pm l,0,none,1,false,true,τ⟩
def ig (l:List Nat):AV:=.pi .i64 (l.map Int.ofNat)
def ntE:List (Nat × Nat)→Pls→List AV
 | x :: ex,y :: M=>.pc [.agg (.pb y.1),.sl x.1 0 y.2.length x.2] :: ntE ex M
 | _,_=>[]
def pid (d n:Nat):List (Nat × Nat):=(List.range n).map fun k=>(d + k,0)
theorem Jh {d n k:Nat} (h:k < n):(pid d n)[k]? = some (d + k,0):=by
 unfold pid
 rw [atI,auI h];rfl
theorem rY (d n:Nat):(pid d n).length = n:=by simp [pid]
theorem zJ (d n:Nat):pid d (n + 1) = (d,0) :: pid (d + 1) n:=by
 refine auK fun k=>?_
 cases k with
 | zero=>rw [Jh (by omega)];rfl
 | succ k =>
  rw [atN]
  by_cases h:k < n
  ·rw [Jh (by omega),Jh h,show d + (k + 1) = d + 1 + k by omega]
  ·rw [atP (by rw [rY];omega),atP (by rw [rY];omega)]
theorem xA:∀ {ex:List (Nat × Nat)} {M:Pls},ex.length = M.length→(ntE ex M).length = M.length
 | [],[],_=>rfl
 | x :: ex,y :: M,h=>by simp [ntE,xA (ex:=ex) (M:=M) (by simpa using h)]
 | [],_ :: _,h=>by simp at h
 | _ :: _,[],h=>by simp at h
theorem UQ:∀ {ex:List (Nat × Nat)} {M:Pls} {j:Nat} {x:Nat × Nat} {y:List UInt8 × List Nat},ex[j]? = some x→M[j]? = some y→(ntE ex M)[j]? = some (.pc [.agg (.pb y.1),.sl x.1 0 y.2.length x.2])
 | [],_,_,_,_,h,_=>by simp at h
 | _ :: _,[],_,_,_,_,h=>by simp at h
 | a :: ex,c :: M,0,x,y,h,h2=>by
  simp at h h2
  subst h h2
  rfl
 | a :: ex,c :: M,j + 1,x,y,h,h2=>by
  simp only [ntE,atN]
  exact UQ (by simpa using h) (by simpa using h2)
theorem Ql:∀ {ex:List (Nat × Nat)} {M:Pls} {j:Nat} {x:Nat × Nat} {y:List UInt8 × List Nat},ex.length = M.length→(ntE ex M).set j (.pc [.agg (.pb y.1),.sl x.1 0 y.2.length x.2]) = ntE (ex.set j x) (M.set j y)
 | [],[],_,_,_,_=>rfl
 | _ :: _,[],_,_,_,h=>by simp at h
 | [],_ :: _,_,_,_,h=>by simp at h
 | a :: ex,c :: M,0,x,y,h=>rfl
 | a :: ex,c :: M,j + 1,x,y,h=>by
  simp only [ntE,List.set_cons_succ]
  rw [Ql (by simpa using h)]
theorem Qm:∀ {ex:List (Nat × Nat)} {M:Pls} {x:Nat × Nat} {y:List UInt8 × List Nat},ex.length = M.length→ntE ex M ++ [.pc [.agg (.pb y.1),.sl x.1 0 y.2.length x.2]] = ntE (ex ++ [x]) (M ++ [y])
 | [],[],_,_,_=>rfl
 | _ :: _,[],_,_,h=>by simp at h
 | [],_ :: _,_,_,h=>by simp at h
 | a :: ex,c :: M,x,y,h=>by
  simp only [ntE,aum]
  rw [Qm (by simpa using h)]
theorem zK:∀ {ex:List (Nat × Nat)} {M:Pls},ex.length = M.length→aC (ntE ex M) = ex.map Prod.fst
 | [],[],_=>rfl
 | _ :: _,[],h=>by simp at h
 | [],_ :: _,h=>by simp at h
 | a :: ex,c :: M,h=>by
  have:=zK (ex:=ex) (M:=M) (by simpa using h)
  simp [ntE,aC,ids,this]
theorem KJ:∀ {ex:List (Nat × Nat)} {M:Pls},aX (ntE ex M) = []
 | [],_=>by simp [ntE,aX]
 | _ :: _,[]=>rfl
 | a :: ex,c :: M=>by
  have:=KJ (ex:=ex) (M:=M)
  simp [ntE,aX,tags,this]
theorem Ji {π:List (Nat × Nat)} {τ:Nat→Nat}:∀ {ex:List (Nat × Nat)} {M:Pls} {d:Nat},ex.length = M.length→(∀ k,k < M.length→π[d + k]? = ex[k]?)→bU (fZ π) τ (ntE (pid d M.length) M) = ntE ex M
 | [],[],_,_,_=>rfl
 | _ :: _,[],_,h,_=>by simp at h
 | [],_ :: _,_,h,_=>by simp at h
 | a :: ex,c :: M,d,h,hk=>by
  rw [atV,zJ]
  simp only [ntE,bU,ren]
  have h0:=hk 0 (by simp)
  simp at h0
  have hr:fZ π d 0 = some a:=by unfold fZ;rw [h0]
  rw [hr]
  simp only
  rw [Ji (ex:=ex) (M:=M) (d:=d + 1) (by simpa using h) (fun k hk2=>by
   have:=hk (k + 1) (by rw [atV];omega)
   rw [show d + 1 + k = d + (k + 1) by omega,this,atN])]
theorem UR {x p:AV} (h:ren idN tz x = .agg p):∃ q,x = .agg q∧ren idN tz q = p:=by
 cases x <;> simp only [ren,idN,reduceCtorEq,AV.agg.injEq] at h
 exact ⟨_,rfl,h⟩
theorem Qn:∀ {ex:List (Nat × Nat)} {M:Pls} {l:List AV},bU idN tz l = ntE ex M→l = ntE ex M
 | [],M,l,h=>by simp only [ntE] at h ⊢;exact oP h
 | _ :: _,[],l,h=>by simp only [ntE] at h ⊢;exact oP h
 | a :: ex,c :: M,l,h=>by
  simp only [ntE] at h
  obtain ⟨x,l',rfl,h1,h2⟩:=fD h
  obtain ⟨l1,rfl,h3⟩:=vU h1
  obtain ⟨y1,l2,rfl,h4,h5⟩:=fD h3
  obtain ⟨y2,l3,rfl,h6,h7⟩:=fD h5
  obtain rfl:=oP h7
  obtain ⟨q,rfl,h8⟩:=UR h4
  obtain rfl:=Jf h8
  obtain rfl:=Bj h6
  rw [Qn h2]
  rfl
theorem UU {ex:List (Nat × Nat)} {M:Pls}:bU idN tz (ntE ex M) = ntE ex M:=by
 induction ex generalizing M with
 | nil=>simp [ntE,bU]
 | cons a ex ih =>
  cases M with
  | nil=>rfl
  | cons c M=>simp [ntE,bU,ren,idN,ih]
def ntS (c:Nat) (b:List UInt8) (M:Pls):List AM.Obj:=[bxN (.ro c (.pb b) 0) 0,bxN (.map 2 0) 0,pmO (ntE (pid 3 M.length) M) 0] ++ (M.map fun y=>ig y.2).map rwF
structure NtV (c:Nat) (b:List UInt8) (t:Nat) (H:AM.Heap) (o1 o4 om:Nat) (ex:List (Nat × Nat)) (M:Pls):Prop where
 bx:∃ τ1 τ,(τ1 = 0∨τ1 = t)∧(τ = 0∨τ = t)∧H[o1]? = some (some (bxN (.ro c (.pb b) τ1) τ))
 mb:∃ τ,(τ = 0∨τ = t)∧H[o4]? = some (some (bxN (.map om 0) τ))
 mp:∃ τ,(τ = 0∨τ = t)∧H[om]? = some (some (pmO (ntE ex M) τ))
 rows:dU t H ex (M.map fun y=>ig y.2)
 nd:(o1 :: o4 :: om :: ex.map Prod.fst).Nodup
section
variable {c:Nat} {b:List UInt8} {t:Nat} {H:AM.Heap} {o1 o4 om:Nat} {ex:List (Nat × Nat)} {M:Pls} {π:List (Nat × Nat)}
theorem NtV.len (h:NtV c b t H o1 o4 om ex M):ex.length = M.length:=by have:=h.rows.len;simpa using this
theorem Hg:∀ p ∈ M.map (fun y=>ig y.2),ids p = []∧tags p = []:=by
 intro p hp
 obtain ⟨y,_,rfl⟩:=aub.1 hp
 exact ⟨rfl,rfl⟩
theorem aaw {π0:List (Nat × Nat)}:∀ {ex:List (Nat × Nat)} {ps:List AV},dU t H ex ps→(∀ p ∈ ps,ids p = []∧tags p = [])→Jj t H π0 ex (ps.map rwF)
 | [],[],_,_=>trivial
 | x :: r,p :: ps,h,hf=>by
  obtain ⟨⟨τ,ob,h1,h2,h3⟩,h4⟩:=h
  obtain ⟨f1,f2⟩:=hf p (auz ..)
  exact ⟨⟨ob,h2,Like.UW h3 f1 f2 h1⟩,aaw h4 fun q hq=>hf q (auc _ hq)⟩
 | [],_ :: _,h,_=>h.elim
 | _ :: _,[],h,_=>h.elim
theorem NtV.img (h:NtV c b t H o1 o4 om ex M):Img t H ((o1,0) :: (o4,0) :: (om,0) :: ex) (ntS c b M):=by
 refine Img.ofL ?_ (by simpa using h.nd)
 obtain ⟨τ1,τ,a1,a2,h1⟩:=h.bx
 obtain ⟨τ2,b2,h2⟩:=h.mb
 obtain ⟨τ3,b3,h3⟩:=h.mp
 refine ⟨⟨_,h1,Like.UY ?_ a2 ?_⟩,⟨_,h2,Like.UY ?_ b2 ?_⟩,⟨_,h3,Like.UY ?_ b3 ?_⟩,aaw h.rows Hg⟩
 ·simp [ren,bU]
  rfl
 ·intro k hk
  simp [tags,aX] at hk
  rw [hk];exact a1
 ·simp [ren,bU,idN,fZ]
 ·intro k hk
  simp [tags,aX] at hk
 ·simp only [ren]
  rw [UU,Ji (d:=3) h.len (fun k hk=>by
   rw [show 3 + k = k + 1 + 1 + 1 by omega,atN,atN,atN])]
 ·intro k hk
  simp [tags,KJ] at hk
theorem NtV.mP (h:Img t H π (ntS c b M)):∃ o1 o4 om ex,π = (o1,0) :: (o4,0) :: (om,0) :: ex∧NtV c b t H o1 o4 om ex M:=by
 obtain ⟨o1,g1,ob1,p1,q1,r1⟩:=h.ob 0 _ rfl
 obtain ⟨o4,g4,ob4,p4,q4,r4⟩:=h.ob 1 _ rfl
 obtain ⟨om,gm,obm,pm,qm,rm⟩:=h.ob 2 _ rfl
 have hR:=Img.rows (S:=[bxN (.ro c (.pb b) 0) 0,bxN (.map 2 0) 0,pmO (ntE (pid 3 M.length) M) 0]) h Hg
 have hnd:=h.nodup
 obtain ⟨rfl,pp,τ,rfl,hτ,hp,ht⟩:=Like.box r1
 obtain ⟨rfl,pp2,τ2,rfl,hτ2,hp2,ht2⟩:=Like.box r4
 obtain ⟨rfl,pp3,τ3,rfl,hτ3,hp3,ht3⟩:=Like.box rm
 have hπ:π = (o1,0) :: (o4,0) :: (om,0) :: π.drop 3:=by
  match π,p1,p4,pm with
  | a :: b :: c :: r,p1,p4,pm =>
   simp at p1 p4 pm
   subst p1 p4 pm
   rfl
  | [],p1,_,_=>simp at p1
  | [_],_,p4,_=>simp at p4
  | [_,_],_,_,pm=>simp at pm
 simp only [atV,atY] at hR
 generalize hex:π.drop 3 = ex at *
 subst hπ
 have hl:=hR.len
 refine ⟨o1,o4,om,ex,rfl,?_,?_,?_,hR,by simpa using hnd⟩
 ·simp only [ren,bU] at hp
  obtain ⟨l1,rfl,k1⟩:=vU hp
  obtain ⟨x,l2,rfl,e1,k2⟩:=fD k1
  obtain rfl:=oP k2
  obtain ⟨τ1,rfl⟩:=vV e1
  exact ⟨τ1,τ,ht τ1 (by simp [tags,aX]),hτ,q1⟩
 ·simp only [ren,bU,fZ] at hp2
  obtain ⟨l1,rfl,k1⟩:=vU hp2
  obtain ⟨x,l2,rfl,e1,k2⟩:=fD k1
  obtain rfl:=oP k2
  simp only [atN,aud] at e1
  obtain rfl:=YC e1
  exact ⟨τ2,hτ2,q4⟩
 ·simp only [ren] at hp3
  rw [Ji (ex:=ex) (d:=3) (by simpa using hl) (fun k hk=>by
   rw [show 3 + k = k + 1 + 1 + 1 by omega,atN,atN,atN])] at hp3
  obtain ⟨l1,rfl,k1⟩:=aaY hp3
  rw [Qn k1] at qm
  exact ⟨τ3,hτ3,qm⟩
end
def yM (k:List UInt8):Pls→Nat→Option Nat
 | [],_=>none
 | y :: M,j=>if y.1 = k then some j else yM k M (j + 1)
def ntM (M:Pls) (k:List UInt8) (i:Nat):Pls:=match yM k M 0 with
 | some j=>M.set j (k,(M.getD j ([],[])).2 ++ [i])
 | none=>M ++ [(k,[i])]
def pK (b:List UInt8) (i:Nat):List UInt8:=(b.drop i).take 3
def ntB (b:List UInt8) (M:Pls) (i:Nat):Pls:=if i + 3≤b.length then ntM M (pK b i) i else M
theorem zL:∀ {M:Pls} {k:List UInt8} {j0 j:Nat},yM k M j0 = some j→j0≤j∧∃ l,M[j - j0]? = some (k,l)
 | [],_,_,_,h=>by cases h
 | y :: M,k,j0,j,h=>by
  unfold yM at h
  split at h
  ·rename_i hk
   cases h
   subst hk
   exact ⟨atG _,y.2,by simp⟩
  ·obtain ⟨h1,l,h2⟩:=zL h
   refine ⟨by omega,l,?_⟩
   rw [show j - j0 = (j - (j0 + 1)) + 1 by omega,atN]
   exact h2
theorem oq:∀ {ex:List (Nat × Nat)} {M:Pls} {k:List UInt8} {j0 j:Nat},ex.length = M.length→(∀ y ∈ M,y.1.length = k.length)→yM k M j0 = some j→∃ x l,ex[j - j0]? = some x∧M[j - j0]? = some (k,l)∧qg (.agg (.pb k)) (ntE ex M) j0 = some (some (j,.sl x.1 0 l.length x.2))
 | _,[],_,_,_,_,_,h=>by cases h
 | [],_ :: _,_,_,_,hl,_,_=>by simp at hl
 | x :: ex,y :: M,k,j0,j,hl,hk,h=>by
  have hy:=hk y (auz ..)
  unfold yM at h
  simp only [ntE,qg,nT]
  rw [if_pos (by rw [hy])]
  split at h
  ·rename_i he
   cases h
   subst he
   exact ⟨x,y.2,by simp,by simp,by simp⟩
  ·rename_i he
   obtain ⟨x2,l,h1,h2,h3⟩:=oq (ex:=ex) (M:=M) (by simpa using hl) (fun z hz=>hk z (auc _ hz)) h
   have hj:=(zL h).1
   refine ⟨x2,l,by rw [show j - j0 = (j - (j0 + 1)) + 1 by omega,atN];exact h1,by rw [show j - j0 = (j - (j0 + 1)) + 1 by omega,atN];exact h2,?_⟩
   have hb:(k == y.1) = false:=by simpa using fun e=>he e.symm
   rw [hb]
   exact h3
theorem lT:∀ {ex:List (Nat × Nat)} {M:Pls} {k:List UInt8} {j0:Nat},ex.length = M.length→(∀ y ∈ M,y.1.length = k.length)→yM k M j0 = none→qg (.agg (.pb k)) (ntE ex M) j0 = some none
 | [],[],_,_,_,_,_=>rfl
 | _ :: _,[],_,_,hl,_,_=>by simp at hl
 | [],_ :: _,_,_,hl,_,_=>by simp at hl
 | x :: ex,y :: M,k,j0,hl,hk,h=>by
  have hy:=hk y (auz ..)
  unfold yM at h
  split at h
  ·cases h
  ·rename_i he
   simp only [ntE,qg,nT]
   rw [if_pos (by rw [hy])]
   have hb:(k == y.1) = false:=by simpa using fun e=>he e.symm
   rw [hb]
   exact lT (by simpa using hl) (fun z hz=>hk z (auc _ hz)) h
theorem key_eq {b:List UInt8} {i:Nat} {x y z:UInt8} (hx:b[i]? = some x) (hy:b[i + 1]? = some y) (hz:b[i + 2]? = some z):pK b i = [x,y,z]:=by
 unfold pK
 have h2:i + 2 < b.length:=(atD.1 hz).1
 rw [auw (by omega),auw (by omega),auw (by omega)]
 rw [atB (by omega)] at hx hy hz
 simp only [List.take_succ_cons,List.take_zero]
 rw [atK hx,atK hy,atK hz]
def keO (k:List UInt8):AM.Obj:=⟨.pb k,0,some 3,1,false,false,0⟩
section
variable {c:Nat} {b:List UInt8} {t:Nat} {H:AM.Heap} {o1 o4 om:Nat} {ex:List (Nat × Nat)} {M:Pls}
theorem adi {m i:Nat} {E:AM.Heap} (h:NtV c b t E 0 1 2 ex M) (hi:i≤100000) (hb:b.length≤100000):∃ code,((Try.f59.body).bind (aB [0])) = some code∧Run X (evT X) 59 m code [(0,.int .i64 (i:Nat)),(1,.ptr 0 0 0 0),(2,.ptr 1 0 0 0)] E ⟨.normal,[(0,.int .i64 (i:Nat)),(1,.ptr 0 0 0 0),(2,.ptr 1 0 0 0),(9,.bool (decide (i + 3≤b.length)))],E⟩:=by
 refine ⟨_,rfl,?_⟩
 obtain ⟨τ1,τ,_,_,h1⟩:=h.bx
 simp only [bxN] at h1
 have w1:IntKind.i64.wrap ((i:Int) + 3) = ((i + 3:Nat):Int):=by rw [wrap_i64 (by omega) (by omega)];omega
 by_cases hl:i + 3≤b.length
 ·have hlI:((i + 3:Nat):Int)≤(b.length:Int):=by omega
  rw [decide_eq_true hl]
  generalize i + 3 = i3 at *
  (refine ⟨0,?_⟩;simp [-getElem?_pos,go_sem,eqV,ah,h1,w1,hl,hlI])
 ·have hlI:¬ ((i + 3:Nat):Int)≤(b.length:Int):=by omega
  rw [decide_eq_false hl]
  generalize i + 3 = i3 at *
  (refine ⟨0,?_⟩;simp [-getElem?_pos,go_sem,eqV,ah,h1,w1,hl,hlI])
theorem UZ (x y z:UInt8):mJ X 95 [(0,.int .u8 (x.toNat:Nat)),(1,.int .u8 (y.toNat:Nat)),(2,.int .u8 (z.toNat:Nat))] = some (.agg (.pb [x,y,z])):=by
 have hx:=x.toNat_lt;have hy:=y.toNat_lt;have hz:=z.toNat_lt
 have h:∀ u v w:Int,mJ X 95 [(0,.int .u8 u),(1,.int .u8 v),(2,.int .u8 w)] = ((jC [.int .u8 u,.int .u8 v,.int .u8 w]).map .pb).map .agg:=by
  intro u v w
  kernel_rfl
 rw [h]
 have a1:(x.toNat:Int) < 256:=by omega
 have a2:(y.toNat:Int) < 256:=by omega
 have a3:(z.toNat:Int) < 256:=by omega
 simp [jC,a1,a2,a3]
theorem adk {m i:Nat} {E:AM.Heap} (h:NtV c b t E 0 1 2 ex M) (hi:i + 3≤b.length) (hb:b.length≤100000):∃ code,((Try.f59.body).bind (aB [1,0,0])) = some code∧Run X (evT X) 59 m code [(0,.int .i64 (i:Nat)),(1,.ptr 0 0 0 0),(2,.ptr 1 0 0 0),(9,.bool true)] E ⟨.normal,[(0,.int .i64 (i:Nat)),(2,.ptr 1 0 0 0),(4,.ptr E.length 0 0 0)],E ++ [some (keO (pK b i))]⟩:=by
 refine ⟨_,rfl,?_⟩
 obtain ⟨τ1,τ,_,_,h1⟩:=h.bx
 simp only [bxN] at h1
 have hE:=dR h1
 have hE2:¬ E.length = 0:=by omega
 have h1':(E ++ [some (keO [0,0,0])])[0]? = E[0]?:=atE hE
 obtain ⟨x,hx⟩:∃ x,b[i]? = some x:=⟨_,atB (by omega)⟩
 obtain ⟨y,hy⟩:∃ x,b[i + 1]? = some x:=⟨_,atB (by omega)⟩
 obtain ⟨z,hz⟩:∃ x,b[i + 2]? = some x:=⟨_,atB (by omega)⟩
 rw [key_eq hx hy hz]
 have w1:IntKind.i64.wrap ((i:Int) + 1) = ((i + 1:Nat):Int):=by rw [wrap_i64 (by omega) (by omega)];omega
 have w2:IntKind.i64.wrap ((i:Int) + 2) = ((i + 2:Nat):Int):=by rw [wrap_i64 (by omega) (by omega)];omega
 have l0:i < b.length:=by omega
 have l1:i + 1 < b.length:=by omega
 have l2:i + 2 < b.length:=by omega
 have l0I:(i:Int) < (b.length:Int):=by omega
 have l1I:((i + 1:Nat):Int) < (b.length:Int):=by omega
 have l2I:((i + 2:Nat):Int) < (b.length:Int):=by omega
 simp only [keO]
 generalize i + 1 = i1 at *
 generalize i + 2 = i2 at *
 apply Run.dy (by simp) U0 (by simp)
 ·(conv=>lhs;simp [-getElem?_pos,go_sem,eqV,ah,jU,out1,bY,nU,jY,pushes,kW,iR,touched,mentioned,jl,gu,dF,nV,Op.operands,ids,aC,aG,dV,dN,iq,mV,h1,hx,hy,hz,w1,w2,l0,l1,l2,l0I,l1I,l2I,UZ,Bq,xB,jZ])
 ·refine lF (ps:=[(0,1),(0,4),(1,4),(2,4),(3,4),(0,5),(1,5),(2,5),(3,5),(4,5),(0,6),(1,6),(2,6),(3,6),(4,6),(0,7),(1,7),(2,7),(3,7),(0,8),(1,8),(2,8),(3,8),(0,9),(1,9),(2,9),(3,9),(4,9),(5,9),(6,9),(7,9),(8,9),(0,10),(1,10),(2,10),(3,10),(4,10),(5,10),(6,10),(7,10),(8,10),(9,10),(0,11),(1,11),(2,11),(3,11),(4,11),(5,11),(6,11),(7,11),(8,11),(9,11),(0,12),(1,12),(2,12),(3,12),(4,12),(5,12),(6,12),(7,12),(8,12),(0,13),(1,13),(2,13),(3,13),(4,13),(5,13),(6,13),(7,13),(8,13),(0,15),(1,15),(2,15),(3,15),(4,15),(5,15),(6,15),(7,15),(8,15),(9,15),(10,15),(11,15),(12,15),(13,15),(14,15)]) (by kernel_rfl) ?_
  simp [zM,bear,disjoint,qh,Call.operands,aJ,ay,aC,ids,jZ,hE,hE2]
 ·rfl
end
end Go.Proofs.Ytbodincpjijdiaa
