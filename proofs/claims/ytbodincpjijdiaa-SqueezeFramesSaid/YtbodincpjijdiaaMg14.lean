/- YHD to V6: texts of this claim, one behind the other; what each shows stands at its head. -/
import Derived.Test.YtbodincpjijdiaaAm4
import Derived.Test.YtbodincpjijdiaaMg13
set_option linter.defProp false
set_option linter.unusedSimpArgs false
set_option linter.unusedVariables false
set_option maxRecDepth 100000
set_option maxHeartbeats 8000000
namespace Go.Proofs.Ytbodincpjijdiaa
open Go.AM
def aiF(E:AM.Heap)(n O:Nat)(oa oc:Option Nat):Prop:=∃ new,(reach E aA (List.range n++[O]) []).filter (fun o=>decide (n<=o))=new/\n<=O/\(∃ i,∀ k,idxOf new O k=some (k+i)/\new[i]?=some O)/\O∈new /\
 (∀ a,oa=some a->a<n\/(n<=a/\a∈new))/\(∀ a,oc=some a->a<n\/(n<=a/\a∈new))/\∀ k,(k<n\/k∈new)->∀ ob,aP E k=some ob->okTags 3 ob/\∀ l,ob.p≠.pm l
def um{E:AM.Heap}{n O N g:Nat}{s:Rd}{oa oc:Option Nat}{out:List Pk}{new:List Nat}(h:RdC 3 E 0 s oa oc)(hout:PkR 3 E O N g out)(hR:(reach E aA (List.range n++[O]) []).filter (fun o=>decide (n<=o))=new)(hO:n<=O)(hi:∃ i,∀ k,idxOf new O k=some (k+i)/\new[i]?=some O)
 (h1:∀ a,oa=some a->a<n\/(n<=a/\a∈new))(h2:∀ a,oc=some a->a<n\/(n<=a/\a∈new))(h3:∀ k,(k<n\/k∈new)->k∈rdπ 0 oa oc\/k=O\/E[k]?=some none):aiF E n O oa oc:=by
 refine⟨new,hR,hO,hi,?_,h1,h2,fun k hk ob hob=>?_⟩
 .obtain ⟨i,hi⟩:=hi;exact axT (hi 0).2
 .rcases h3 k hk with h4|rfl|h4
  .exact h.ok h4 hob
  .obtain ⟨l,oo,τo,hτo,hf,hN,ho,hw⟩:=hout;have hob:oo=ob:=by simpa[aP,ho]using hob
   rw[<- hob];exact⟨⟨by rw[hw.p];exact G9 hf,by rw[hw.tg];exact hτo⟩,by rw[hw.p];simp⟩
  .simp [aP,h4]at hob
def newC{E:AM.Heap}{O N g:Nat}{s:Rd}{oa0 oc0 oa oc:Option Nat}{out:List Pk}(h:RdC 3 E 0 s oa oc)(hout:PkR 3 E O N g out)(O0:0<O)(Oa:∀ a,oa=some a->a≠O)(Oc:∀ c,oc=some c->c≠O)(hK:Kp (oc0.map fun _=>2) oc E)(hA:∀ a,(oa0.map fun _=>1)=some a->oa=some a)(hfr0:oa0=none->oc0=none) :
 aiF E (rdπ 0 oa0 oc0).length O oa oc:=by
 obtain⟨⟨vr,vb,τ,hτ,h0,hr,hb⟩,hne,hfr⟩:=id h;obtain⟨ri,rt,ro⟩:=hr.ob;obtain⟨bi,bt,bo⟩:=hb.ob;obtain⟨_,hla,hlc⟩:=h.lt;have pV:ids (s.pay vr vb)=oa.toList++oc.toList:=by rw[Nh,ri,bi]
 obtain⟨l,oo,τo,hτo,hf,hN,ho,hw⟩:=id hout;have hoi:=hw.ids;cases oa0 with
 | none=>
  obtain rfl:=hfr0 rfl;cases oa with
  | none=>
   obtain rfl:=hfr rfl;refine um (new:=[O]) h hout ?_ O0 ⟨0,fun k=>⟨by simp[idxOf],rfl⟩⟩ (fun a h=>by cases h) (fun a h=>by cases h) ?_
   .show (reach E (99996+1+1+1+1) [0,O] []).filter (fun o=>decide (1<=o))=[O];simp at pV;simp[reach,h0,aX,pV,ho,hoi,show O≠0 by omega,show 1<=O by omega]
   .intro k hk;simp[rdπ]at hk ⊢;omega
  | some a=>
   obtain⟨oba,L,ha,hai,_⟩:=ro a rfl;have a0:=(hla a rfl).2;have aO:=Oa a rfl;cases oc with
   | none=>
    refine um (new:=[a,O]) h hout ?_ O0 ⟨1,fun k=>⟨by simp[idxOf,aO],rfl⟩⟩ (fun x h=>by cases h;exact .inr ⟨by simp[rdπ];omega,by simp⟩) (fun a h=>by cases h) ?_
    .show (reach E (99995+1+1+1+1+1) [0,O] []).filter (fun o=>decide (1<=o))=[a,O];simp at pV;simp[reach,h0,aX,pV,ho,hoi,ha,hai,a0,ax6 aO,show O≠0 by omega,show 1<=O by omega,show 1<=a by omega]
    .intro k hk;simp[rdπ]at hk ⊢;omega
   | some c=>
    obtain⟨obc,L2,hc,hci,_⟩:=bo c rfl;have c0:=(hlc c rfl).2;have cO:=Oc c rfl;have ac:=hne a c rfl rfl;refine um (new:=[a,c,O]) h hout ?_ O0 ⟨2,fun k=>⟨by simp[idxOf,aO,cO],rfl⟩⟩ (fun x h=>by cases h;exact .inr ⟨by simp[rdπ];omega,by simp⟩) (fun x h=>by cases h;exact .inr ⟨by simp[rdπ];omega,by simp⟩) ?_
    .show (reach E (99993+1+1+1+1+1+1+1) [0,O] []).filter (fun o=>decide (1<=o))=[a,c,O];simp at pV;simp[reach,h0,aX,pV,ho,hoi,ha,hai,hc,hci,a0,c0,ax6 aO,ax6 cO,ax6 ac,show O≠0 by omega,show 1<=O by omega,show 1<=a by omega,show 1<=c by omega]
    .intro k hk;simp[rdπ]at hk ⊢;omega
 | some a0=>
  obtain rfl:=hA 1 rfl;obtain⟨oba,L,ha,hai,_⟩:=ro 1 rfl;have aO:=Oa 1 rfl;cases oc0 with
  | none=>
   cases oc with
   | none=>
    refine um (new:=[O]) h hout ?_ (by simp[rdπ];omega) ⟨0,fun k=>⟨by simp[idxOf],rfl⟩⟩ (fun x h=>by cases h;exact .inl (by simp[rdπ])) (fun a h=>by cases h) ?_
    .show (reach E (99994+1+1+1+1+1+1) [0,1,O] []).filter (fun o=>decide (2<=o))=[O];simp at pV;simp[reach,h0,aX,pV,ho,hoi,ha,hai,ax6 aO,show O≠0 by omega,show 2<=O by omega]
    .intro k hk;simp[rdπ]at hk ⊢;omega
   | some c=>
    obtain⟨obc,L2,hc,hci,_⟩:=bo c rfl;have c0:=(hlc c rfl).2;have cO:=Oc c rfl;have ac:=hne 1 c rfl rfl;refine um (new:=[c,O]) h hout ?_ (by simp[rdπ];omega) ⟨1,fun k=>⟨by simp[idxOf,cO],rfl⟩⟩ (fun x h=>by cases h;exact .inl (by simp[rdπ])) (fun x h=>by cases h;exact .inr ⟨by simp[rdπ];omega,by simp⟩) ?_
    .show (reach E (99992+1+1+1+1+1+1+1+1) [0,1,O] []).filter (fun o=>decide (2<=o))=[c,O];simp at pV;simp[reach,h0,aX,pV,ho,hoi,ha,hai,hc,hci,c0,ax6 aO,ax6 cO,ax6 ac,show O≠0 by omega,show 2<=O by omega,show 2<=c by omega]
    .intro k hk;simp[rdπ]at hk ⊢;omega
  | some c0=>
   have hK2:=hK 2 rfl;have O2:O≠2:=by
    rintro rfl;rcases hK2 with h|h
    .exact Oc 2 h rfl
    .rw [h]at ho;cases ho
   cases oc with
   | none=>
    have e2:E[2]?=some none:=by
     rcases hK2 with h|h
     .cases h
     .exact h
    refine um (new:=[O]) h hout ?_ (by simp[rdπ];omega) ⟨0,fun k=>⟨by simp[idxOf],rfl⟩⟩ (fun x h=>by cases h;exact .inl (by simp[rdπ])) (fun a h=>by cases h) ?_
    .show (reach E (99993+1+1+1+1+1+1+1) [0,1,2,O] []).filter (fun o=>decide (3<=o))=[O];simp at pV;simp[reach,h0,aX,pV,ho,hoi,ha,hai,e2,ax6 aO,show O≠0 by omega,show 3<=O by omega]
    .intro k hk;simp only[rdπ,Option.toList,axY,ax3,axR,ax2,ayK,or_false,ax1]at hk ⊢;by_cases hk2:k=2
     .subst hk2;exact .inr (.inr e2)
     .omega
   | some c=>
    obtain⟨obc,L2,hc,hci,_⟩:=bo c rfl;have c0:=(hlc c rfl).2;have cO:=Oc c rfl;have ac:=hne 1 c rfl rfl;by_cases hc2:c=2
    .subst hc2;refine um (new:=[O]) h hout ?_ (by simp[rdπ];omega) ⟨0,fun k=>⟨by simp[idxOf],rfl⟩⟩ (fun x h=>by cases h;exact .inl (by simp[rdπ])) (fun x h=>by cases h;exact .inl (by simp[rdπ])) ?_
     .show (reach E (99991+1+1+1+1+1+1+1+1+1) [0,1,2,O] []).filter (fun o=>decide (3<=o))=[O];simp at pV;simp[reach,h0,aX,pV,ho,hoi,ha,hai,hc,hci,ax6 aO,O2,show O≠0 by omega,show 3<=O by omega]
     .intro k hk;simp[rdπ]at hk ⊢;omega
    .have e2:E[2]?=some none:=by
      rcases hK2 with h|h
      .exact absurd (axN h) hc2
      .exact h
     refine um (new:=[c,O]) h hout ?_ (by simp[rdπ];omega) ⟨1,fun k=>⟨by simp[idxOf,cO],rfl⟩⟩ (fun x h=>by cases h;exact .inl (by simp[rdπ])) (fun x h=>by cases h;exact .inr ⟨by simp[rdπ];omega,by simp⟩) ?_
     .show (reach E (99991+1+1+1+1+1+1+1+1+1) [0,1,2,O] []).filter (fun o=>decide (3<=o))=[c,O];simp at pV;simp[reach,h0,aX,pV,ho,hoi,ha,hai,hc,hci,e2,c0,ax6 aO,ax6 cO,ax6 ac,O2,show O≠0 by omega,show 3<=O by omega,show 3<=c by omega]
     .intro k hk;simp only[rdπ,Option.toList,axY,ax3,axR,ax2,ayK,or_false,ax1]at hk ⊢;by_cases hk2:k=2
      .subst hk2;exact .inr (.inr e2)
      .simp;omega
def Zk{H:AM.Heap}{o:Nat}{x:AV}{b:List UInt8}{s:Rd}{oa oc:Option Nat}(h:RdC 0 H o s oa oc)(hm:0<s.m)(hnx:s.nx<256)(hb:s.rest.length+s.body.length+b.length<=900000)(hx:fJ H x=some (.pb b))(hxd:disjoint (slO x) (rdπ o oa oc)=true) :
 ∃ O H' oa' oc',evT X 24 [.ptr o 0 0 0,x] H=some (.tup [.sl O 0 (hdR s b).2.1.length 0,.int .i64 (hdR s b).2.2],H')/\RdC 0 H' o (hdR s b).1 oa' oc'/\PkR 0 H' O (hdR s b).2.1.length 0 (hdR s b).2.1/\H.length<=O/\H.length<=H'.length/\(∀ j,j<H.length->j∉rdπ o oa oc->H'[j]?=H[j]?)/\(∀ a,oa'=some a->a≠O/\(a∈rdπ o oa oc\/H.length<=a))/\(∀ a,oc'=some a->a≠O/\(a∈rdπ o oa oc\/H.length<=a)):=by
 obtain⟨hπ,hnd,hlt,hin,⟨t',ht',htt⟩,hE⟩:=h.into (n:=3);have ht0:t'=0:=by omega
 subst ht0;have hl:aH X 24 H 1 [x]=some ([.ro (qK H x) (.pb b) 2],[⟨slO x,[vM H x]⟩]):=by have h1:=Dl (k:=2) hx;have hr1:X.rw 24 1=false:=rfl;simp only[aH,hr1,h1]
 obtain⟨code,hcode,hrun⟩:=QX (mm:=(rdπ o oa oc).length) (qK H x) b hE hm hnx hb;obtain⟨⟨ex,fr,E⟩,⟨he,O,g,oa1,oc1,q4,q5,hR,hp,O0,Oa,Oc,hK,hA⟩,hr⟩:=hrun;simp only at he q4 q5 hR hp hK;subst he;have hlen:(rdπ o oa oc).length=(rdπ 0 oa oc).length:=by rw[sW,sW]
 obtain⟨new,hnew,hnO,⟨i,hi⟩,hmO,hna,hnc,hok⟩:=newC hR hp O0 Oa Oc hK hA h.fr;rw[<- hlen]at hnew hnO hna hnc hok;obtain⟨l,oo,τo,hτo,hf,hN,hO,hw⟩:=id hp;have hEv:=Ev1.grp (C:=X) (f:=24) (H:=H) (o:=o) (n:=3) (t:=0) (π:=rdπ o oa oc) (new:=new) (xs:=[x]) (ys:=[.ro (qK H x) (.pb b) 2]) (aN:=[⟨slO x,[vM H x]⟩]) (l:=[.sl O 0 (hdR s b).2.1.length g,.int .i64 (hdR s b).2.2]) (bC X) Try.func24 hcode rfl hπ hin hl (by simp[aC,ids]) (by simp[hxd]) rfl (by simp[dA]) ht'
  (by rw[agd];exact hr) (.inr rfl) (by show some [aB fr 4,aB fr 5]=_;rw[q4,q5])
  (by
   rw[show ids (aG [AV.sl O 0 (hdR s b).2.1.length g,.int .i64 (hdR s b).2.2])=[O]by simp[aG,dB,ids,aC]];exact hnew)
  (by simp[aG,dB,tags,aW])
  hok
 have hlO:live E O g=some oo:=by simp[live,hO,hw.g]
 have hbO:aY H (rdπ o oa oc) new E O g=some (H.length+i,0):=by unfold aY;rw[hlO];simp only;rw[if_neg (by omega),(hi H.length).1];rfl
 have ash:aP E O=some oo:=by simp[aP,hO]
 have hπ0:(rdπ o oa oc)[0]?=some o:=rfl;have hg:∀ ob,aP H o=some ob->ob.g=0:=by
  intro ob hob;obtain⟨⟨vr,vb,τ,_,h0,_⟩,_⟩:=h;have:aX s vr vb τ=ob:=by simpa[aP,h0]using hob
  rw[<- this];rfl
 obtain⟨oa',oc',b1,b2,b3,b4⟩:=hR.back (t:=0) (H:=H) (π:=rdπ o oa oc) (new:=new) hnd hlt hπ0 hg hna hnc;have aiG:At H (rdπ o oa oc) new O (H.length+i):=.inr ⟨hnO,i,(hi 0).2,rfl⟩;have hAt:∀ a a',At H (rdπ o oa oc) new a a'->a'∈rdπ o oa oc\/H.length<=a':=by
  rintro a a' (⟨_,h⟩|⟨_,j,_,rfl⟩)
  .exact .inl (axT h)
  .exact .inr (by omega)
 refine⟨H.length+i,_,oa',oc',dI (by simpa[aG,dB,AM.ren,bU,hbO]using hEv),b1,?_,by omega,by rw[axR,eH];omega,fun j hj hjo=>MZ hj hjo,?_,?_⟩
 .refine ⟨bU (aY H (rdπ o oa oc) new E) (bk 3 0) l,aQ (aY H (rdπ o oa oc) new E) (bk 3 0) 0 oo,0,.inl rfl,TM (.inl (by simp[bk])) (.inl (by simp[bk])) hf,rfl,?_,?_⟩
  .rw [axS (by rw[eH];omega),eH,Nat.add_sub_cancel_left,axP,(hi 0).2];simp[ash]
  .exact ⟨by simp[aQ,hw.p,AM.ren],rfl,hw.row,hw.ids,by simp[aQ,bk]⟩
 .intro a' ha';obtain⟨a,e1,e2⟩:=b2 a' ha';exact⟨At.inj hnd hlt e2 aiG (Oa a e1),hAt a a' e2⟩
 .intro a' ha';obtain⟨a,e1,e2⟩:=b3 a' ha';exact⟨At.inj hnd hlt e2 aiG (Oc a e1),hAt a a' e2⟩
structure HIn (s:Rd) (m lim B:Nat):Prop where
 em:s.m=m
 el:s.lim=lim
 nx:s.nx<256
 body:s.body.length<=lim
 sz:s.rest.length+s.body.length<=B
 held:s.st=0->s.rest.length+s.body.length<=lim+4
def QY(s:Rd)(n:Nat):(jh s n).body=s.body++(s.rest.drop 4).take n/\(jh s n).rest=s.rest.drop (4+n):=⟨rfl,rfl⟩
def Zl(s:Rd):(qU s).lim=s.lim:=by unfold qU;split<;>rfl
def abH(s:Rd):(qU s).st=s.st:=by unfold qU;split<;>rfl
def frB(m:Nat):Nat->List UInt8->Nat->List UInt8
 | 0,_,_=>[]
 | f+1,b,s=>if b.length<m then hdB b.length s++b else hdB m s++(b.take m++frB m f (b.drop m) ((s+1)%256))
def frN(m:Nat):Nat->List UInt8->Nat->Nat
 | 0,_,s=>s
 | f+1,b,s=>if b.length<m then(s+1)%256 else frN m f (b.drop m) ((s+1)%256)
def fr(m:Nat)(b:List UInt8)(s:Nat):List UInt8:=frB m (b.length+1) b s
def fn(m:Nat)(b:List UInt8)(s:Nat):Nat:=frN m (b.length+1) b s
section
variable {m:Nat}
def Zm:∀ (f:Nat) (out b:List UInt8) (s:Nat),spS m f out b s=(out++frB m f b s,frN m f b s)
 | 0,out,b,s=>by simp[spS,frB,frN]
 | f+1,out,b,s=>by
  unfold spS frB frN;by_cases h:b.length<m
  .rw [if_pos h,if_pos h,if_pos h]
  .rw [if_neg h,if_neg h,if_neg h,Zm f];simp
def He(hm:0<m):∀ (f f2:Nat) (b:List UInt8) (s:Nat),b.length<f->b.length<f2->frB m f b s=frB m f2 b s/\frN m f b s=frN m f2 b s
 | f+1,f2+1,b,s,h,h2=>by
  unfold frB frN;by_cases hb:b.length<m
  .simp [hb]
  .rw [if_neg hb,if_neg hb,if_neg hb,if_neg hb];obtain⟨q1,q2⟩:=He hm f f2 (b.drop m) ((s+1)%256) (by rw[axW];omega) (by rw[axW];omega);rw[q1,q2];exact⟨rfl,rfl⟩
 | 0,_,_,_,h,_=>by omega
 | _,0,_,_,_,h=>by omega
def Zn(hm:0<m)(b:List UInt8)(s:Nat):fr m b s=hdB (min m b.length) s++(b.take m++(if b.length<m then[]else fr m (b.drop m) ((s+1)%256))):=by
 unfold fr;rw[frB];by_cases hb:b.length<m
 .rw [if_pos hb,if_pos hb,az1 (by omega),aym (by omega),ax1]
 .rw [if_neg hb,if_neg hb,ayG (by omega),(He hm b.length ((b.drop m).length+1) (b.drop m) _ (by rw[axW];omega) (by omega)).1]
def ac2(hm:0<m)(b:List UInt8)(s:Nat):fn m b s=if b.length<m then(s+1)%256 else fn m (b.drop m) ((s+1)%256):=by
 unfold fn;rw[frN];by_cases hb:b.length<m
 .rw [if_pos hb,if_pos hb]
 .rw [if_neg hb,if_neg hb,(He hm b.length ((b.drop m).length+1) (b.drop m) _ (by rw[axW];omega) (by omega)).2]
def Hf(m n:Nat):Nat:=n+4*(n/m+1)
def QZ(hm:0<m)(b:List UInt8)(s:Nat):(fr m b s).length=Hf m b.length:=by
 generalize hn:b.length=n;induction n using Nat.strongRecOn generalizing b s with
 | _ n ih=>
  rw[Zn hm,axR,Fg,axR,ayc];by_cases hb:b.length<m
  .rw [if_pos hb,az1 (by omega)];unfold Hf;rw[azy (by omega)];simp;omega
  .rw [if_neg hb,ayG (by omega),ih (n-m) (by omega) (b.drop m) _ (by rw[axW];omega)];unfold Hf;have h1:n/m=(n-m)/m+1:=by rw[Nat.div_eq_sub_div hm (by omega)]
   omega
def stm(m:Nat):List (List UInt8)->Nat->List UInt8
 | [],_=>[]
 | b::r,s=>fr m b s++stm m r (fn m b s)
def stn(m:Nat):List (List UInt8)->Nat->Nat
 | [],s=>s
 | b::r,s=>stn m r (fn m b s)
def stl(m:Nat):List (List UInt8)->Nat
 | []=>0
 | b::r=>Hf m b.length+stl m r
def yS(hm:0<m):∀ (l:List (List UInt8)) (s:Nat),(stm m l s).length=stl m l
 | [],_=>rfl
 | b::r,s=>by rw[stm,axR,QZ hm,yS hm r,stl]
def TN:∀ (l r:List (List UInt8)) (s:Nat),stm m (l++r) s=stm m l s++stm m r (stn m l s)
 | [],_,_=>rfl
 | b::l,r,s=>by rw[ayj,stm,TN l r,stm,stn,ayq]
def TP:∀ (l r:List (List UInt8)) (s:Nat),stn m (l++r) s=stn m r (stn m l s)
 | [],_,_=>rfl
 | b::l,r,s=>by rw[ayj,stn,TP l r,stn]
def Vp{a b:Nat}(h:a<=b):Hf m a<=Hf m b:=by
 unfold Hf;have:=Nat.div_le_div_right (c:=m) h;omega
end
structure CIn (s:Rd) (m lim fin:Nat) (R:List UInt8) (bs:List (List UInt8)):Prop where
 st:s.st=0
 em:s.m=m
 el:s.lim=lim
 nx:s.nx<256
 come:match bs with
  | []=>s.rest++R=[]/\s.body=[]/\s.nx=fin
  | cur::r=>∃ tail,s.body++tail=cur/\s.rest++R=fr m tail s.nx++stm m r (fn m tail s.nx)/\stn m r (fn m tail s.nx)=fin
def Zo{m:Nat}(hm:0<m)(b:List UInt8)(s:Nat):4+min m b.length<=(fr m b s).length:=by
 rw[Zn hm,axR,Fg,axR,ayc];omega
def Ou{l r x y:List UInt8}{k:Nat}(h:l++r=x++y)(hx:x.length=k)(hl:k<=l.length):l.take k=x/\l.drop k++r=y:=by
 have h1:(l++r).take k=x:=by rw[h,<- hx,List.take_left]
 have h2:(l++r).drop k=y:=by rw[h,<- hx,List.drop_left]
 rw[azx hl]at h1;rw[azw hl]at h2;exact⟨h1,h2⟩
def LG{m lim fin:Nat}(hm:0<m)(hm2:m<=16777215):∀ (f:Nat) (s:Rd) (out:List Pk) (R:List UInt8) (bs:List (List UInt8)),s.rest.length<f->CIn s m lim fin R bs->(∀ b∈bs,b.length<=lim) ->
 ∃ outs bs2,(fdL f s out).2.1=out++outs/\bs=outs.map Pk.body++bs2/\(fdL f s out).2.2=0/\CIn (fdL f s out).1 m lim fin R bs2/\(∀ b r,bs2=b::r->stl m r<R.length)
 | 0,s,out,R,bs,hf,_,_=>by omega
 | f+1,s,out,R,bs,hf,h,hl=>by
  obtain⟨hst,em,el,hnx,Zp⟩:=id h;unfold fdL;by_cases h1:s.rest.length<4
  .rw [if_pos h1];refine⟨[],bs,by simp,by simp,rfl,h,fun b r hb=>?_⟩;subst hb;obtain⟨tail,_,h3,_⟩:=Zp;have h4:=congrArg List.length h3;rw[axR,axR,yS hm]at h4;have:=Zo hm tail s.nx;omega
  rw[if_neg h1];cases bs with
  | nil=>
   obtain⟨h2,_⟩:=Zp;have:=congrArg List.length h2;rw[axR,ax3]at this;omega
  | cons cur r=>
   obtain⟨tail,hbody,hrest,hfin⟩:=Zp;obtain⟨n,hn⟩:∃ n,n=min m tail.length:=⟨_,rfl⟩;have hfr:=Zn hm tail s.nx;rw[<- hn]at hfr;obtain⟨Y,hY⟩:∃ Y,Y=(if tail.length<m then[]else fr m (tail.drop m) ((s.nx+1)%256))++stm m r (fn m tail s.nx):=⟨_,rfl⟩;have aeD:s.rest++R=hdB n s.nx++(tail.take m++Y):=by rw[hrest,hfr,hY];simp only[ayq]
   obtain⟨p1,p2⟩:=Ou aeD (Fg _ _) (by omega);have asi:n<256 ^ 3:=by show n<16777216;omega
   have ht3:s.rest.take 3=leB 3 n:=by
    have:(s.rest.take 4).take 3=(hdB n s.nx).take 3:=by rw[p1]
    rw[List.take_take]at this;unfold hdB at this;rw[List.take_left' (kU 3 n)]at this;exact this
   have hlv:leV (s.rest.take 3)=n:=by rw[ht3,ER,ayN asi]
   have hg3:(s.rest.getD 3 0).toNat=s.nx:=by
    have h5:s.rest[3]?=some (UInt8.ofNat s.nx):=by
     have h6:(s.rest.take 4)[3]?=(hdB n s.nx)[3]?:=by rw[p1]
     rw[azt (by omega)]at h6;rw[h6];unfold hdB;rw[axS (by rw[kU];omega),kU];rfl
    rw[List.getD,h5];simp;omega
   have hcl:=hl cur (ays ..);have hbl:=congrArg List.length hbody;rw[axR]at hbl;have hck:ckE s=0:=by unfold ckE;rw[hlv,hg3,if_neg (by omega),if_neg (by simp),if_neg (by omega)]
   rw[if_neg (by simp[hck]),hlv];by_cases h3:s.rest.length<4+n
   .rw [if_pos h3];refine⟨[],cur::r,by simp,by simp,rfl,h,fun b r2 hb=>?_⟩;obtain⟨rfl,rfl⟩:=List.cons.inj hb;have h4:=congrArg List.length hrest;rw[axR,axR,yS hm]at h4;have:=Zo hm tail s.nx;omega
   rw[if_neg h3];have htk:(tail.take m).length=n:=by rw[ayc];omega
   obtain⟨q1,q2⟩:=Ou p2 htk (by rw[axW];omega);rw[azc]at q2;have aeE:(jh s n).body=s.body++tail.take m:=by rw[(QY s n).1,q1]
   have aeF:(jh s n).rest++R=Y:=by rw[(QY s n).2];exact q2
   have aiH:(jh s n).nx=(s.nx+1)%256:=rfl;have aiI:(jh s n).m=s.m:=Zq s;have aiJ:(jh s n).lim=s.lim:=Zl s;have aiK:(jh s n).st=s.st:=abH s;have hr:(jh s n).rest.length<f:=by rw[(QY s n).2,axW];omega
   have hfn:=ac2 hm tail s.nx;by_cases h4:n<s.m
   .rw [if_pos h4];have htm:tail.length<m:=by omega
    rw[if_pos htm]at hY hfn;rw[ax8]at hY;have htl:tail.take m=tail:=aym (by omega);rw[htl,hbody]at aeE;obtain⟨outs,bs2,k1,k2,k3,k4,k5⟩:=LG (lim:=lim) (fin:=fin) hm hm2 f { jh s n with body:=[],wi:=false } (out++[⟨(jh s n).sq,(jh s n).nx,(jh s n).body⟩]) R r hr (by
     refine⟨by rw[<- hst,<- aiK],by rw[<- em,<- aiI],by rw[<- el,<- aiJ],azS _ (by omega),?_⟩;cases r with
     | nil=>exact⟨(by show(jh s n).rest++R=[];rw[aeF,hY];rfl),rfl,(by show(s.nx+1)%256=fin;rw[<- hfin,hfn];rfl)⟩
     | cons c2 r2=>
      refine⟨c2,rfl,?_,?_⟩
      .show (jh s n).rest++R=fr m c2 ((s.nx+1)%256)++_;rw[aeF,hY,hfn];rfl
      .rw [<- hfin,hfn];rfl) (fun b hb=>hl b (aya _ hb))
    refine⟨⟨(jh s n).sq,(jh s n).nx,(jh s n).body⟩::outs,bs2,by rw[k1];simp,?_,k3,k4,k5⟩;rw[ax9,aeE,k2];rfl
   .rw [if_neg h4];have htm:¬ tail.length<m:=by omega
    rw[if_neg htm]at hY hfn;obtain⟨outs,bs2,k1,k2,k3,k4,k5⟩:=LG (lim:=lim) (fin:=fin) hm hm2 f (jh s n) out R (cur::r) hr (by
     refine⟨by rw[aiK,hst],by rw[aiI,em],by rw[aiJ,el],azS _ (by omega),tail.drop m,?_,?_,?_⟩
     .rw [aeE,ayq,azq,hbody]
     .rw [aeF,hY,hfn,aiH]
     .rw [<- hfin,hfn,aiH]) hl
    exact⟨outs,bs2,k1,k2,k3,k4,k5⟩
def Q5{m:Nat}(hm:0<m)(hm2:m<=16777215)(b:List UInt8)(s:Nat)(hb:b.length<=1000000):split b s (m:Nat)=(fr m b s,fn m b s,0):=by
 unfold split;rw[if_neg (by omega),if_neg (by omega),Zm];rfl
def aiL{m:Nat}(hm:0<m)(b:List UInt8)(s:Nat):fn m b s<256:=by
 generalize hn:b.length=n;induction n using Nat.strongRecOn generalizing b s with
 | _ n ih=>
  rw[ac2 hm];split
  .omega
  .exact ih (n-m) (by omega) _ _ (by rw[axW];omega)
def bds(rows:List (Nat×List UInt8)):List (List UInt8):=rows.map Prod.snd
def Zr{rows:List (Nat×List UInt8)}{i rc:Nat}{rb:List UInt8}(h:rows[i]?=some (rc,rb)):(bds rows)[i]?=some rb:=by
 unfold bds;rw[axP,h];rfl
def abI{α:Type}{l:List α}{i:Nat}{x:α}(h:l[i]?=some x):l.take (i+1)=l.take i++[x]:=by
 rw[azE,h];rfl
def Lu{m:Nat}:∀ (l:List (List UInt8)),(∀ b∈l,b.length<=100)->stl m l<=600*l.length
 | [],_=>by simp[stl]
 | b::r,h=>by
  have h1:=Lu (m:=m) r fun b hb=>h b (aya _ hb);have h2:=h b (ays ..);have h3:Hf m b.length<=600:=by unfold Hf;have:=az5 b.length m;omega
  rw[stl,axY];omega
def Zt{m:Nat}(hm:0<m):∀ (l:List (List UInt8)) (s:Nat),s<256->stn m l s<256
 | [],s,h=>h
 | b::r,s,_=>by rw[stn];exact Zt hm r _ (aiL hm b s)
def TQ{t:Nat}:∀ {a b:List Pk} {l k:List AV},PkL t a l->PkL t b k->PkL t (a++b) (l++k)
 | [],_,[],_,_,h=>h
 | _::_,_,_::_,_,h,h2=>⟨h.1,TQ h.2 h2⟩
 | [],_,_::_,_,h,_=>h.elim
 | _::_,_,[],_,h,_=>h.elim
def abJ{H:AM.Heap}{T O g:Nat}{a b:List Pk}(h:PkR 0 H T a.length g a)(h2:PkR 0 H O b.length 0 b)(hn:a.length+b.length<=100000):∃ H',PkR 0 H' T (a++b).length (g+1) (a++b)/\(∀ j,j≠T->H'[j]?=H[j]?)/\H'.length=H.length/\bG X H 51 (.sl T 0 a.length g) (.sl O 0 b.length 0)=some (.sl T 0 (a++b).length (g+1),H'):=by
 obtain⟨l,ob,τ,hτ,hf,_,ho,hw⟩:=h;obtain⟨l2,ob2,τ2,hτ2,hf2,_,ho2,hw2⟩:=h2;obtain rfl:τ=0:=by omega
 obtain rfl:τ2=0:=by omega
 have hl:=Gs hf;have hl2:=Gs hf2;have q1:=hw2.p;have q2:=hw2.g;have q4:=hw2.ids;have q5:=hw2.tg;have hsrc:gJ H (.sl O 0 b.length 0)=some (.pr 3 l2,0):=by have ht:l2.take b.length=l2:=aym (by omega);simp[gJ,live,ho2,q1,q2,q4,q5,gq,kH,jq,hl2,ht]
 have hu:und X 51=.slice 55:=by kernel_rfl
 have hsz:sizeT X 55=3:=by kernel_rfl
 have hb4:bH X 55<=4096:=by simp
 have hzk:bM X 55=true:=by kernel_rfl
 obtain⟨ob',w1,w2⟩:=Gl (C:=X) (T:=51) (e:=55) (es:=3) hu hsz (by decide) hb4 hzk ho ⟨hw.p,hw.g,hw.row,hw.ids,hw.tg⟩ hsrc (by omega);rw[<- hl,<- hl2,<- axR]at w2;exact⟨_,⟨l++l2,ob',0,.inl rfl,TQ hf hf2,rfl,by unfold AM.upd;exact setAt ho,⟨w1.p,w1.g,w1.row,w1.ids,w1.tg⟩⟩,fun j hj=>by unfold AM.upd;rw[axU (ax6 hj)],by simp[AM.upd],w2⟩
section
variable {c c3 m ou:Nat}{rows:List (Nat×List UInt8)}{cuts:List Int}
def wQ(c c3 m ou:Nat)(rows:List (Nat×List UInt8))(cuts:List Int)(N g sq i:Nat)(tl:AM.Frame):AM.Frame:=[(0,.ro c (.pc (rows.map xG)) 1),(1,.int .i64 (m:Nat)),(2,.int .i64 (ou:Nat)),(3,.ro c3 (.pi .i64 cuts) 4),(9,.sl 0 0 N g),(10,.int .u8 (sq:Nat)),(11,.int .i64 (i:Nat))]++tl
def VfI(m:Nat)(rows:List (Nat×List UInt8))(g i:Nat)(E:AM.Heap):Prop:=∃ ob,E[0]?=some (some ob)/\Rw (.pb (stm m ((bds rows).take i) 0)) g ob/\∀ b∈(bds rows).take i,b.length<=100
def Zu{E:AM.Heap}{g i:Nat}(hm:0<m)(hm2:m<=200)(hrl:rows.length<=10)(hrc:∀ r∈rows,r.1=0->r.2=[])(hi:i<rows.length)(h:VfI m rows g i E) :
 ∃ code,Try.f7.body.bind (ay [1,1,1,1,1,0,1,0,0,1])=some code/\aj (fun o=>(∃ g' E',o=⟨.normal,wQ c c3 m ou rows cuts (stm m ((bds rows).take (i+1)) 0).length g' (stn m ((bds rows).take (i+1)) 0) (i+1) [],E'⟩/\VfI m rows g' (i+1) E')\/(o.ex=.ret/\aB o.fr 8=.bool true)) X (evT X) 7 0 code (wQ c c3 m ou rows cuts (stm m ((bds rows).take i) 0).length g (stn m ((bds rows).take i) 0) i [(59,.bool true)]) E:=by
 refine⟨_,rfl,?_⟩;obtain⟨ob,h0,hw,hall⟩:=h;obtain⟨⟨rc,rb⟩,hri⟩:∃ r,rows[i]?=some r:=⟨_,axI hi⟩;have hiI:(i:Int)<(rows.length:Int):=by omega
 by_cases hb:100<rb.length
 .have hbI:(100:Int)<(rb.length:Int):=by omega
  refine aj.of (o:=⟨.ret,[(8,.bool true)],E⟩) ⟨0,?_⟩ (.inr ⟨rfl,rfl⟩);unfold wQ;generalize (stm m ((bds rows).take i) 0).length=N at *;generalize stn m ((bds rows).take i) 0=sq at *;simp[-getElem?_pos,go_sem,hi,hiI,hri,xG,retag,hb,hbI]
 have hbI:¬ (100:Int)<(rb.length:Int):=by omega
 have hsq:=Zt hm ((bds rows).take i) 0 (by omega);have hLl:=yS hm ((bds rows).take i) 0;have hLb:=Lu (m:=m) ((bds rows).take i) hall;have U3:((bds rows).take i).length<=10:=by rw[ayc];simp[bds];omega
 have hba:=Zr hri;have htk:=abI hba;have e1:stm m ((bds rows).take i) 0++fr m rb (stn m ((bds rows).take i) 0)=stm m ((bds rows).take (i+1)) 0:=by rw[htk,TN,stm,stm,ax1]
 have e2:fn m rb (stn m ((bds rows).take i) 0)=stn m ((bds rows).take (i+1)) 0:=by rw[htk,TP,stn,stn]
 obtain⟨obx,hwx,hS⟩:=YK (H:=E) (a:=.ro rc (.pb rb) 1) (b:=rb) (s:=stn m ((bds rows).take i) 0) (m:=(m:Nat)) (Byt.ro (.inl rfl) (hrc _ (axT hri))) hsq (by omega);rw[Q5 hm (by omega) rb _ (by omega)]at hwx hS;simp only at hwx hS;have hfl:=QZ hm rb (stn m ((bds rows).take i) 0);have asj:Hf m rb.length<=600:=by unfold Hf;have:=az5 rb.length m;omega
 have k0:(E++[some obx])[0]?=some (some ob):=tK h0;have hsrc:gJ (E++[some obx]) (.sl E.length 0 (fr m rb (stn m ((bds rows).take i) 0)).length 0)=some (.pb (fr m rb (stn m ((bds rows).take i) 0)),0):=TlV.src ⟨E.length,0,0,obx,0,_,rfl,ayl,⟨hwx.p,hwx.g,hwx.row,hwx.ids,hwx.tg⟩,by simp,by omega⟩;obtain⟨ob',w1,w2⟩:=Aj (C:=X) (T:=22) (e:=5) (t:=0) lM Ai nO bytes5 vN k0 ⟨hw.p,hw.g,hw.row,hw.ids,hw.tg⟩ (.inl hsrc) (by omega);rw[<- axR,e1]at w2;rw[e1]at w1;rw[e2]at hS;have hw1:IntKind.i64.wrap ((i:Int)+1)=((i+1:Nat):Int):=by rw[wrap_i64 (by omega) (by omega)];omega
 have k1:(AM.upd (E++[some obx]) 0 (some ob'))[0]?=some (some ob'):=by unfold AM.upd;exact setAt k0
 refine aj.of (o:=⟨.normal,wQ c c3 m ou rows cuts (stm m ((bds rows).take (i+1)) 0).length (g+1) (stn m ((bds rows).take (i+1)) 0) (i+1) [],AM.upd (E++[some obx]) 0 (some ob')⟩) ?_ (.inl ⟨_,_,rfl,ob',k1,⟨w1.p,w1.g,w1.row,w1.ids,w1.tg⟩,?_⟩)
 .unfold wQ;clear hsq hLl hLb e1 e2 hfl asj hwx hw hsrc w1 k1;generalize stn m ((bds rows).take (i + 1)) 0=sq2 at *;generalize (stm m ((bds rows).take (i + 1)) 0).length=N2 at *;generalize (stm m ((bds rows).take i) 0).length=N at *;generalize stn m ((bds rows).take i) 0=sq at *;generalize (fr m rb sq).length=F at *;generalize AM.upd (E++[some obx]) 0 (some ob')=E2 at *;generalize E++[some obx]=E1 at *;apply Pe;simp[-getElem?_pos,go_sem,hi,hiI,hri,xG,retag,hb,hbI,hS,w2,hw1,ak]
 .intro b hb2;rw[htk]at hb2;rcases axV.1 hb2 with h|h
  .exact hall b h
  .simp only[ax2,ayK,or_false]at h;rw[h];omega
end
def CIn.len{s:Rd}{m lim fin:Nat}{R:List UInt8}{bs:List (List UInt8)}(hm:0<m)(h:CIn s m lim fin R bs):s.rest.length+R.length<=stl m bs:=by
 obtain⟨_,_,_,_,hc⟩:=h;cases bs with
 | nil=>
  obtain⟨h1,_⟩:=hc;have:=congrArg List.length h1;rw[axR,ax3]at this;omega
 | cons cur r=>
  obtain⟨tail,h1,h2,_⟩:=hc;have h3:=congrArg List.length h2;have h4:=congrArg List.length h1;rw[axR,axR,yS hm,QZ hm]at h3;rw[axR]at h4;have:=Vp (m:=m) (show tail.length<=cur.length by omega);rw[stl];omega
section
variable {c m mo:Nat}{rows:List (Nat×List UInt8)}{r q T C:Nat}{chs:List (List UInt8)}{E:AM.Heap}
def mP(c:Nat)(rows:List (Nat×List UInt8))(r q T N g C M i:Nat)(tl:AM.Frame):AM.Frame:=[(0,.ro c (.pc (rows.map xG)) 1),(18,.ptr r 0 0 0),(20,.ptr q 0 0 0),(22,.sl T 0 N g),(23,.sl C 0 M 0),(24,.int .i64 (i:Nat))]++tl
structure VcI (m mo:Nat) (fin fn0:Nat) (chs bds:List (List UInt8)) (E:AM.Heap) (r q T C g i:Nat) (out:List Pk):Prop where
 z:∃ oa nx L off p s pa pc bs,QV mo 0 E r oa nx L off/\Sty mo 20 (L.drop off) (chs.drop i).flatten nx p fin/\Nw mo 20 (L.drop off) p/\L.length<=60000/\RdC 0 E q s pa pc/\CIn s m 100 fn0 p bs/\bds=out.map Pk.body++bs/\(i≠0->∀ b r,bs=b::r->stl m r<p.length) /\
  (∀ a g,oa=some (a,g)->a≠q/\a≠T/\a≠C/\a∉rdπ q pa pc)/\r∉rdπ q pa pc/\T∉rdπ q pa pc/\C∉rdπ q pa pc
 t:PkR 0 E T out.length g out
 ch:∃ ob l,E[C]?=some (some ob)/\ChL chs l/\Rw (.pc l) 0 ob
 ne:r≠T/\r≠C/\T≠C
def aeu{N g i:Nat}{ob:AM.Obj}(ho:E[C]?=some (some ob))(hg:ob.g=0):∃ code,Try.f7.body.bind (ay [1,1,1,1,1,1,1,1,1,1,1,1,0,1,0,0,0,0])=some code/\Run X (evT X) 7 0 code (mP c rows r q T N g C chs.length i []) E ⟨.normal,mP c rows r q T N g C chs.length i [(126,.bool (decide (i<chs.length)))],E⟩:=by
 refine⟨_,rfl,?_⟩;unfold mP;generalize chs.length=M at *;by_cases h:i<M
 .have hI:(i:Int)<(M:Int):=by omega
  rw[decide_eq_true h];apply Pe;simp[-getElem?_pos,go_sem,ho,hg,h,hI]
 .have hI:¬ (i:Int)<(M:Int):=by omega
  rw[decide_eq_false h];apply Pe;simp[-getElem?_pos,go_sem,ho,hg,h,hI]
def aeG{N g i M cb τ z n g2:Nat}{ob:AM.Obj}{l:List AV}{x:List UInt8}{E1:AM.Heap}(ho:E[C]?=some (some ob))(hw:Rw (.pc l) 0 ob)(hi:i<M)(hM:l.length=M)(hx:l[i]?=some (.ro cb (.pb x) τ))(he:evT X 15 [.ptr r 0 0 0,.ro cb (.pb x) 0] E=some (.tup [.sl z 0 n g2,.int .i64 0],E1)) :
 ∃ code,Try.f7.body.bind (ay [1,1,1,1,1,1,1,1,1,1,1,1,0,1,0,0,1,0,0,0])=some code/\Run X (evT X) 7 0 code (mP c rows r q T N g C M i [(126,.bool true)]) E ⟨.normal,mP c rows r q T N g C M i [(25,.sl z 0 n g2),(26,.int .i64 0)],E1⟩:=by
 refine⟨_,rfl,?_⟩;have hI:(i:Int)<(M:Int):=by omega
 have hiL:i<l.length:=by omega
 have q1:=hw.p;have q2:=hw.g;have q3:=hw.ids;have q5:=hw.tg;unfold mP;apply Pe;simp[-getElem?_pos,go_sem,ho,q1,q2,q3,q5,hI,hi,hiL,hx,he,ak,retag]
def aeH{N g i M z n g2 O k:Nat}{E1:AM.Heap}(he:evT X 24 [.ptr q 0 0 0,.sl z 0 n g2] E=some (.tup [.sl O 0 k 0,.int .i64 0],E1)) :
 ∃ code,Try.f7.body.bind (ay [1,1,1,1,1,1,1,1,1,1,1,1,0,1,0,0,1,0,0,1,0])=some code/\Run X (evT X) 7 0 code (mP c rows r q T N g C M i [(25,.sl z 0 n g2),(26,.int .i64 0)]) E ⟨.normal,mP c rows r q T N g C M i [(26,.int .i64 0),(27,.sl O 0 k 0),(28,.int .i64 0)],E1⟩:=by
 refine⟨_,rfl,?_⟩;unfold mP;apply Pe;simp[-getElem?_pos,go_sem,he,ak]
def aeI{N g i M O k:Nat}:∃ code,Try.f7.body.bind (ay [1,1,1,1,1,1,1,1,1,1,1,1,0,1,0,0,1,0,0,1,1,0,0])=some code/\Run X (evT X) 7 0 code (mP c rows r q T N g C M i [(26,.int .i64 0),(27,.sl O 0 k 0),(28,.int .i64 0)]) E ⟨.normal,mP c rows r q T N g C M i [(27,.sl O 0 k 0),(149,.bool false)],E⟩:=by
 refine⟨_,rfl,?_⟩;unfold mP;apply Pe;simp[-getElem?_pos,go_sem]
def aeJ{N g i M O k N2 g3:Nat}{E1:AM.Heap}(hA:bG X E 51 (.sl T 0 N g) (.sl O 0 k 0)=some (.sl T 0 N2 g3,E1)) :
 ∃ code,Try.f7.body.bind (ay [1,1,1,1,1,1,1,1,1,1,1,1,0,1,0,0,1,0,0,1,1,1])=some code/\Run X (evT X) 7 0 code (mP c rows r q T N g C M i [(27,.sl O 0 k 0),(149,.bool false)]) E ⟨.normal,mP c rows r q T N2 g3 C M i [],E1⟩:=by
 refine⟨_,rfl,?_⟩;unfold mP;apply Pe;simp[-getElem?_pos,go_sem,hA,ak]
def aeK{N g i M:Nat}(hi:i<1000000):∃ code,Try.f7.body.bind (ay [1,1,1,1,1,1,1,1,1,1,1,1,0,1,0,0,1,1])=some code/\Run X (evT X) 7 0 code (mP c rows r q T N g C M i []) E ⟨.normal,mP c rows r q T N g C M (i+1) [],E⟩:=by
 refine⟨_,rfl,?_⟩;have w:IntKind.i64.wrap ((i:Int)+1)=((i+1:Nat):Int):=by rw[wrap_i64 (by omega) (by omega)];omega
 unfold mP;generalize i + 1=i1 at *;apply Pe;simp[-getElem?_pos,go_sem,w]
end
def RdC.stay{t:Nat}{H H':AM.Heap}{o:Nat}{s:Rd}{oa oc:Option Nat}(h:RdC t H o s oa oc)(hk:∀ j∈rdπ o oa oc,H'[j]?=H[j]?):RdC t H' o s oa oc:=by
 obtain⟨⟨vr,vb,τ,hτ,h0,hr,hb⟩,hne,hfr⟩:=h;exact⟨⟨vr,vb,τ,hτ,by rw[hk o (by simp[rdπ])];exact h0,hr.at0 fun a ha=>hk a (by simp[rdπ,ha]),hb.at0 fun a ha=>hk a (by simp[rdπ,ha])⟩,hne,hfr⟩
def RdC.inH{t:Nat}{H:AM.Heap}{o:Nat}{s:Rd}{oa oc:Option Nat}(h:RdC t H o s oa oc):∀ j∈rdπ o oa oc,j<H.length:=by
 obtain⟨h1,h2,h3⟩:=h.lt;intro j hj;unfold rdπ at hj;simp only[ax2,axV,Option.mem_toList]at hj;rcases hj with rfl|hj|hj
 .exact h1
 .exact (h2 j hj).1
 .exact (h3 j hj).1
def BN{H:AM.Heap}{q j:Nat}{pa pc pa' pc':Option Nat}(hj:j∉rdπ q pa pc)(hlt:j<H.length)(h1:∀ a,pa'=some a->a∈rdπ q pa pc\/H.length<=a)(h2:∀ a,pc'=some a->a∈rdπ q pa pc\/H.length<=a):j∉rdπ q pa' pc':=by
 intro h;unfold rdπ at h;simp only[ax2,axV,Option.mem_toList]at h;rcases h with h|h|h
 .exact hj (by simp[rdπ,h])
 .rcases h1 j h with h|h
  .exact hj h
  .omega
 .rcases h2 j h with h|h
  .exact hj h
  .omega
def QV.stay{m t:Nat}{H H':AM.Heap}{o nx off:Nat}{oa:Option (Nat×Nat)}{L:List UInt8}(h:QV m t H o oa nx L off)(h0:H'[o]?=H[o]?)(h1:∀ a g,oa=some (a,g)->H'[a]?=H[a]?):QV m t H' o oa nx L off:=by
 obtain⟨⟨v,τ,q1,q2,q3⟩,hne⟩:=h;refine⟨⟨v,τ,q1,by rw[h0];exact q2,?_⟩,hne⟩;cases oa with
 | none=>exact q3
 | some y=>
  obtain⟨w1,w2,τ2,ob,w3,w4,w5⟩:=q3;exact⟨w1,w2,τ2,ob,w3,by rw[h1 _ _ rfl];exact w4,w5⟩
def QV.inH{m t:Nat}{H:AM.Heap}{o nx off:Nat}{oa:Option (Nat×Nat)}{L:List UInt8}(h:QV m t H o oa nx L off):o<H.length/\∀ a g,oa=some (a,g)->a<H.length:=by
 obtain⟨⟨v,τ,q1,q2,q3⟩,hne⟩:=h;refine⟨eX q2,?_⟩;rintro a g rfl;obtain⟨w1,w2,τ2,ob,w3,w4,w5⟩:=q3;exact eX w4
def CIn.more{s:Rd}{m lim fin:Nat}{R1 R2:List UInt8}{bs:List (List UInt8)}(h:CIn s m lim fin (R1++R2) bs):CIn { s with rest:=s.rest++R1 } m lim fin R2 bs:=by
 obtain⟨h1,h2,h3,h4,hc⟩:=h;refine⟨h1,h2,h3,h4,?_⟩;cases bs with
 | nil=>exact⟨by simp only[ayq];exact hc.1,hc.2⟩
 | cons cur r=>
  obtain⟨tail,q1,q2,q3⟩:=hc;exact⟨tail,q1,by simp only[ayq];exact q2,q3⟩
def CIn.body{s:Rd}{m lim fin:Nat}{R:List UInt8}{bs:List (List UInt8)}(h:CIn s m lim fin R bs)(hl:∀ b∈bs,b.length<=lim):s.body.length<=lim:=by
 obtain⟨_,_,_,_,hc⟩:=h;cases bs with
 | nil=>rw[hc.2.1];exact ayF _
 | cons cur r=>
  obtain⟨tail,q1,_⟩:=hc;have:=congrArg List.length q1;rw[axR]at this;have:=hl cur (ays ..);omega
section
variable {c m mo fin fn0:Nat}{rows:List (Nat×List UInt8)}{r q T C:Nat}{chs bds:List (List UInt8)}{E:AM.Heap}
def abz{g i:Nat}{out:List Pk}(hm:1<=m)(hm2:m<=200)(hmo:1<=mo)(axv:mo<=200)(hbl:∀ b∈bds,b.length<=100)(hbn:bds.length<=10)(hI:VcI m mo fin fn0 chs bds E r q T C g i out)(hi:i<chs.length)(hi2:i<1000000) :
 ∃ g' out' E',VcI m mo fin fn0 chs bds E' r q T C g' (i+1) out'/\∃ code,Try.f7.body.bind (ay [1,1,1,1,1,1,1,1,1,1,1,1,0,1,0,0,1])=some code/\Run X (evT X) 7 0 code (mP c rows r q T out.length g C chs.length i [(126,.bool true)]) E ⟨.normal,mP c rows r q T out'.length g' C chs.length (i+1) [],E'⟩:=by
 obtain⟨oa,nx,L,off,p,s,pa,pc,bs,hV,hS,hN,hL,hR,hC,hbs,hst,hoa,hrq,hTq,hCq⟩:=hI.z;obtain⟨obC,l,hCo,hl,hwC⟩:=hI.ch;obtain⟨hrT,hrC,hTC⟩:=hI.ne;have hTl:=hI.t.lt;obtain⟨x,hx⟩:∃ x,chs[i]?=some x:=⟨_,axI hi⟩;obtain⟨v,hv,cb,τ,hcb,rfl⟩:=YG hl hx;have hfl:(chs.drop i).flatten=x++(chs.drop (i+1)).flatten:=by obtain⟨h1,h2⟩:=axK.1 hx;rw[ayz h1,h2,List.flatten_cons]
 have hS':Sty mo 20 (L.drop off++x) (chs.drop (i+1)).flatten nx p fin:=⟨by rw[ayq,<- hfl];exact hS.eq,hS.fn,hS.nx,hS.len⟩;obtain⟨E1,oa1,nx1,L1,off1,told,p1,z,g2,e1,hV1,hp1,hS1,hN1,hL1,hK1,⟨τz,obz,hτz,hz,hwz⟩,hzl,hza⟩:=aan (x:=.ro cb (.pb x) 0) hV hmo (by omega) rfl (by simp[slO,disjoint]) hS' hL;have hVl:=hV.inH;have hRl:=hR.inH
 -- what the first reader leaves alone
 have Zv:∀ j,j<E.length->j≠r->(∀ a g,oa=some (a,g)->j≠a)->E1[j]?=E[j]?:=hK1.rest;have hR1:RdC 0 E1 q s pa pc:=hR.stay fun j hj=>Zv j (hRl j hj) (fun e=>hrq (e ▸ hj)) (fun a g h e=>(hoa a g h).2.2.2 (e ▸ hj));have ht1:PkR 0 E1 T out.length g out:=hI.t.keep (Zv T hTl (ax6 hrT) fun a g h=>ax6 (hoa a g h).2.1);have kC1:E1[C]?=some (some obC):=by rw[Zv C (eX hCo) (ax6 hrC) fun a g h=>ax6 (hoa a g h).2.2.1];exact hCo
 have PG:∀ a g,oa1=some (a,g)->a≠q/\a≠T/\a≠C/\a∉rdπ q pa pc:=by
  intro a g ha;cases hq:oa with
  | none=>
   have h1:=hK1.new a g hq ha;have h2:=eX hCo;exact⟨fun e=>by have:=hRl q (by simp[rdπ]);omega,by omega,by omega,fun h=>by have:=hRl a h;omega⟩
  | some y=>
   obtain⟨g3,h3⟩:=hK1.same y.1 y.2 hq;rw[h3]at ha;simp only[axH,axJ]at ha;rw[<- ha.1];exact hoa y.1 y.2 hq
 -- the second reader
 have aeL:∀ b∈bs,b.length<=100:=fun b hb=>hbl b (by rw[hbs];exact ay2 _ hb);have hsb:=hC.body aeL;have hlen:=hC.len (by omega);have axw:=Lu (m:=m) bs aeL;have axx:bs.length<=10:=by have:=congrArg List.length hbs;rw[axR,ayB]at this;omega
 have hpl:p.length=told.length+p1.length:=by rw[hp1,axR]
 rw[hp1]at hC;have hem:=hC.em;obtain⟨O,E2,pa2,pc2,e2,hR2,ht2,hO,hE2,hk2,ha2,hc2⟩:=Zk (x:=.sl z 0 told.length g2) (b:=told) hR1 (by omega) hC.nx (by omega) (by rw[EP hz hwz (by omega)];simp) (by
  refine iT.2 ?_;intro y hy hy2;have:y=z:=by simpa[slO]using hy
  subst this;have:=hRl y hy2;omega)
 have hhd:hdR s told=fdL ((s.rest++told).length+1) { s with rest:=s.rest++told } []:=by unfold hdR;rw[if_neg (by simp[hC.st])]
 obtain⟨outs,bs2,f1,f2,f3,f4,f5⟩:=LG (lim:=100) (fin:=fn0) (by omega) (by omega) ((s.rest++told).length+1) { s with rest:=s.rest++told } [] p1 bs (by simp) hC.more aeL;rw[<- hhd,ax8]at f1;rw[<- hhd]at f3 f4;rw[f1]at e2 ht2;rw[f3]at e2;generalize (hdR s told).1=s2 at *;have hol:out.length+outs.length<=10:=by have h1:=congrArg List.length hbs;rw[f2,axR,axR,ayB,ayB]at h1;omega
 have asa:E.length<=E1.length:=hK1.len;have asl:PkR 0 E2 T out.length g out:=ht1.keep (hk2 T (by omega) hTq);obtain⟨E3,ht3,hk3,hl3,e3⟩:=abJ asl ht2 (by omega);have abK:=hV1.inH;have kp:∀ j,j<E1.length->j∉rdπ q pa pc->j≠T->E3[j]?=E1[j]?:=fun j h1 h2 h3=>by rw[hk3 j h3,hk2 j h1 h2]
 have hV3:QV mo 0 E3 r oa1 nx1 L1 off1:=hV1.stay (kp r abK.1 hrq hrT) fun a g h=>kp a (abK.2 a g h) (PG a g h).2.2.2 (PG a g h).2.1;have aiM:=eX kC1;have hn1:∀ a,pa2=some a->a∈rdπ q pa pc\/E1.length<=a:=fun a h=>(ha2 a h).2;have hn2:∀ a,pc2=some a->a∈rdπ q pa pc\/E1.length<=a:=fun a h=>(hc2 a h).2;have aiN:=BN (q:=q) hTq (by omega) hn1 hn2;have hR3:RdC 0 E3 q s2 pa2 pc2:=hR2.stay fun j hj=>hk3 j fun e=>aiN (e ▸ hj);refine⟨g+1,out++outs,E3,⟨⟨oa1,nx1,L1,off1,p1,s2,pa2,pc2,bs2,hV3,hS1,hN1,hL1,hR3,f4,by rw[hbs,f2,ayy,ayq],fun _=>f5,?_,BN hrq abK.1 hn1 hn2,aiN,BN hCq aiM hn1 hn2⟩,ht3,⟨obC,l,by rw[kp C aiM hCq (ax6 hTC)];exact kC1,hl,hwC⟩,hrT,hrC,hTC⟩,_,rfl,?_⟩
 .intro a g h;obtain⟨w1,w2,w3,w4⟩:=PG a g h;exact⟨w1,w2,w3,BN w4 (abK.2 a g h) hn1 hn2⟩
 .refine Run.seq (Run.block (Run.seq (piece (aeG hCo hwC hi (Fe hl) hv e1) _ rfl) (Run.seq (piece (aeH e2) _ rfl) (Run.seq (Run.seq (piece aeI _ rfl) (Run.cond (d:=false) (by simp[mP,aJ,aB]) ⟨0,rfl⟩)) (piece (aeJ e3) _ rfl)))) (by simp)) (piece (aeK hi2) _ rfl)
end
section
variable {c:Nat}{rows:List (Nat×List UInt8)}{T:Nat}{E:AM.Heap}
def wB(c:Nat)(rows:List (Nat×List UInt8))(T N g i:Nat)(tl:AM.Frame):AM.Frame:=[(0,.ro c (.pc (rows.map xG)) 1),(22,.sl T 0 N g),(29,.int .i64 (i:Nat))]++tl
def TR{t:Nat}{p:Pk}:∀ {i:Nat} {l:List Pk} {m:List AV},PkL t l m->l[i]?=some p->∃ v,m[i]?=some v/\PkA t p v
 | 0,q::r,v::l,h,hi=>by
  simp at hi;subst hi;exact⟨v,rfl,h.1⟩
 | i+1,q::r,v::l,h,hi=>by
  obtain⟨w,h1,h2⟩:=TR (i:=i) h.2 (by simpa using hi);exact⟨w,by simpa using h1,h2⟩
 | _,[],_,_,hi=>by simp at hi
 | _,_::_,[],h,_=>h.elim
def aeM{N g i:Nat}{ob:AM.Obj}(ho:E[T]?=some (some ob))(hg:ob.g=g):∃ code,Try.f7.body.bind (ay [1,1,1,1,1,1,1,1,1,1,1,1,1,0,1,0,0,0,0])=some code/\Run X (evT X) 7 0 code (wB c rows T N g i []) E ⟨.normal,wB c rows T N g i [(156,.bool (decide (i<N)))],E⟩:=by
 refine⟨_,rfl,?_⟩;unfold wB;by_cases h:i<N
 .have hI:(i:Int)<(N:Int):=by omega
  rw[decide_eq_true h];apply Pe;simp[-getElem?_pos,go_sem,ho,hg,h,hI]
 .have hI:¬ (i:Int)<(N:Int):=by omega
  rw[decide_eq_false h];apply Pe;simp[-getElem?_pos,go_sem,ho,hg,h,hI]
def aeN{N g i rc cb sq nx τ:Nat}{rb:List UInt8}{ob:AM.Obj}{l:List AV}(ho:E[T]?=some (some ob))(hw:RwT (.pr 3 l) g 0 ob)(hi:i<N)(hN:l.length=N)(hl:l[i]?=some (.pc [.int .u8 (sq:Nat),.int .u8 (nx:Nat),.ro cb (.pb rb) τ]))(hri:rows[i]?=some (rc,rb))(hS:evT X 12 [.ro cb (.pb rb) 0,.ro rc (.pb rb) 1] E=some (.bool true,E)) :
 ∃ code,Try.f7.body.bind (ay [1,1,1,1,1,1,1,1,1,1,1,1,1,0,1,0,0,1,0,0,0])=some code/\Run X (evT X) 7 0 code (wB c rows T N g i [(156,.bool true)]) E ⟨.normal,wB c rows T N g i [(175,.bool false)],E⟩:=by
 refine⟨_,rfl,?_⟩;have hr:=eX hri;have hrI:¬ (rows.length:Int)<=(i:Int):=by omega
 have hrN:¬ rows.length<=i:=by omega
 have asn:(i:Int)<(rows.length:Int):=by omega
 have hI:(i:Int)<(N:Int):=by omega
 have hiL:i<l.length:=by omega
 have q1:=hw.p;have q2:=hw.g;have q3:=hw.ids;have q5:=hw.tg;have q6:=hw.row;obtain⟨op,og,axy,oz,axz,axA,otg⟩:=ob;simp only at q1 q2 q3 q5 q6;subst q1 q2 q3 q5 q6;unfold wB;apply Pe;simp[-getElem?_pos,go_sem,ho,hr,hrI,hrN,asn,hI,hi,hiL,hl,hri,xG,retag,hS,unV]
def aeO{N g i:Nat}(hi:i<1000000):∃ code,Try.f7.body.bind (ay [1,1,1,1,1,1,1,1,1,1,1,1,1,0,1,0,0,1,1])=some code/\Run X (evT X) 7 0 code (wB c rows T N g i [(175,.bool false)]) E ⟨.normal,wB c rows T N g (i+1) [],E⟩:=by
 refine⟨_,rfl,?_⟩;have w:IntKind.i64.wrap ((i:Int)+1)=((i+1:Nat):Int):=by rw[wrap_i64 (by omega) (by omega)];omega
 unfold wB;generalize i + 1=i1 at *;apply Pe;simp[-getElem?_pos,go_sem,w]
def abA{g:Nat}{out:List Pk}(hrc:∀ r∈rows,r.1=0->r.2=[])(hrl:rows.length<=10)(h:PkR 0 E T out.length g out)(hb:out.map Pk.body=bds rows) :
 ∃ code,Try.f7.body.bind (ay [1,1,1,1,1,1,1,1,1,1,1,1,1,0,1])=some code/\Run X (evT X) 7 0 code (wB c rows T out.length g 0 []) E ⟨.normal,wB c rows T out.length g out.length [(156,.bool false)],E⟩:=by
 refine⟨_,rfl,?_⟩;obtain⟨l,ob,τ,hτ,hf,_,ho,hw⟩:=h;obtain rfl:τ=0:=by omega
 have hl:=Gs hf;have hol:out.length=rows.length:=by have:=congrArg List.length hb;simpa[bds]using this
 apply Run.iM;refine Run.mY (σ:=Nat) (fun i=>i<=out.length) (fun i=>wB c rows T out.length g i []) (fun _=>E) (fun _=>⟨.exit 4,wB c rows T out.length g out.length [(156,.bool false)],E⟩) (fun i=>out.length-i) ?_ 0 (ayF _);intro i hi;have r33:=aeM (c:=c) (rows:=rows) (N:=out.length) (i:=i) ho hw.g;by_cases hin:i<out.length
 .left
  rw[decide_eq_true hin]at r33;obtain⟨p,hp⟩:∃ p,out[i]?=some p:=⟨_,axI hin⟩;obtain⟨v,hv,cb,τ2,_,hcb,_,rfl⟩:=TR hf hp;obtain⟨⟨rc,rb⟩,hri⟩:∃ r,rows[i]?=some r:=⟨_,axI (by omega)⟩;have hbody:p.body=rb:=by
   have h1:(out.map Pk.body)[i]?=some p.body:=by rw[axP,hp];rfl
   rw[hb,Zr hri]at h1;exact(axN h1).symm
  rw[hbody]at hv hcb;have hS:=Na (H:=E) (a:=.ro cb (.pb rb) 0) (a2:=.ro rc (.pb rb) 1) (Byt.ro (.inl rfl) hcb) (Byt.ro (.inl rfl) (hrc _ (axT hri)));rw[beq_self_eq_true]at hS;refine⟨i+1,hin,?_,rfl,by omega⟩;exact Run.seq (Run.seq (piece r33 _ rfl) (Run.cond (d:=true) (by simp[wB,aJ,aB]) ⟨0,rfl⟩)) (Run.seq (Run.block (Run.seq (piece (aeN ho hw hin hl.symm hv hri hS) _ rfl) (Run.cond (d:=false) (by simp[wB,aJ,aB]) ⟨0,rfl⟩)) (by simp)) (piece (aeO (by omega)) _ rfl))
 .right
  rw[decide_eq_false hin]at r33;obtain rfl:i=out.length:=by omega
  exact⟨Run.bK (Run.seq (piece r33 _ rfl) (Run.cond (d:=false) (by simp[wB,aJ,aB]) ⟨0,rfl⟩)) (by simp),by simp⟩
end
section
variable {c:Nat}{l:List UInt8}
end
section
variable {s:Ws}{v:Nat}{E:AM.Heap}
end
section
variable {t:Nat}{H:AM.Heap}{o:Nat}{oa:Option Nat}{s:Ws}
end
section
variable {t:Nat}{H:AM.Heap}{o:Nat}{oa:Option Nat}{s:Ws}
end
end Go.Proofs.Ytbodincpjijdiaa
namespace Go.Proofs.Ytbodincpjijdiaa
open Go.AM
end Go.Proofs.Ytbodincpjijdiaa
namespace Go.Proofs.Ytbodincpjijdiaa
open Go.AM
section
variable {c:Nat}{l:List Px}
end
section
variable {c:Nat}{l:List Px}
end
structure GxV (E:AM.Heap) (o6 o7 o8 o10 o12:Nat) (oa:Option Nat) (s:Ws):Prop where
 r6:E[o6]?=some (mF 288 flL)
 r7:E[o7]?=some (mF 32 flD)
 r8:E[o8]?=some (mF 288 lcL)
 r10:E[o10]?=some (mF 32 dcL)
 wr:WrV 0 E o12 oa s
 lt:o6<o12/\o7<o12/\o8<o12/\o10<o12
 oa:∀ a,oa=some a->o12<a
 ok:jK s
section
variable {E:AM.Heap}{o6 o7 o8 o10 o12:Nat}{oa:Option Nat}{s:Ws}
def GxV.step{E':AM.Heap}{oa':Option Nat}{s':Ws}(h:GxV E o6 o7 o8 o10 o12 oa s)(hw:WrV 0 E' o12 oa' s')(hk:Kpw E E' o12 oa oa')(hok:jK s'):GxV E' o6 o7 o8 o10 o12 oa' s':=by
 obtain⟨l6,l7,l8,l10⟩:=h.lt;have hl:=h.wr.lt';have keep:∀ j,j<o12->E'[j]?=E[j]?:=fun j hj=>hk.rest j (by omega) (by omega) fun a ha=>by have:=h.oa a ha;omega
 refine⟨by rw[keep _ l6];exact h.r6,by rw[keep _ l7];exact h.r7,by rw[keep _ l8];exact h.r8,by rw[keep _ l10];exact h.r10,hw,h.lt,?_,hok⟩;intro a ha;cases hq:oa with
 | none=>have:=hk.new a hq ha;omega
 | some z=>
  have:=hk.same z hq;rw[ha]at this;cases this;exact h.oa _ hq
end
section
variable {E:AM.Heap}{o6 o7 o8 o10 o12:Nat}{oa:Option Nat}{s:Ws}
end
section
variable {c:Nat}{l:List Px}
end
section
variable {c:Nat}{b:List UInt8}
end
end Go.Proofs.Ytbodincpjijdiaa
namespace Go.Proofs.Ytbodincpjijdiaa
open Go.AM
section
variable {c:Nat}{b:List UInt8}
end
-- plain: the same pieces
end Go.Proofs.Ytbodincpjijdiaa
namespace Go.Proofs.Ytbodincpjijdiaa
open Go.AM
section
variable {c:Nat}{b:List UInt8}
end
section
variable {c:Nat}{b:List UInt8}
end
section
variable {c:Nat}{b:List UInt8}
end
section
variable {c:Nat}{B:List UInt8}
end
section
variable {c:Nat}{B:List UInt8}
end
section
variable {c:Nat}{B:List UInt8}
end
def e8:List UInt8:=[165,165,165,165,165,165,165,165]
section
variable (c:Nat)(b:List UInt8)
structure OwnB (b:List UInt8) (ob:AM.Obj):Prop where
 rw:Rw (.pb (b++e8)) 0 ob
 cap:ob.cap=some (b.length+8)
end
def OwnB.byt{H:AM.Heap}{o:Nat}{ob:AM.Obj}{b:List UInt8}(ho:H[o]?=some (some ob))(h:OwnB b ob):Byt H (.sl o 0 b.length 0) b :=
 Byt.sl ho h.rw (by simp) (by simp)
def aeP:sqR [97,98] 3 60 50=([2,0,0,3,0,0,0,97,98],4,0):=by kernel_rfl
def aiO(H:AM.Heap):bT X H 22 2 [(0,.int .u8 97),(1,.int .u8 98)]=some (.ro 1 (.pb [97,98]) 0,H):=by kernel_rfl
def aiP(H:AM.Heap):bT X H 22 9 [(0,.int .u8 2),(1,.int .u8 0),(2,.int .u8 0),(3,.int .u8 3),(4,.int .u8 0),(5,.int .u8 0),(6,.int .u8 0),(7,.int .u8 97),(8,.int .u8 98)]=some (.ro 1 (.pb [2,0,0,3,0,0,0,97,98]) 0,H):=by kernel_rfl
def Ov:∃ code,Try.f8.body=some code/\aj (lG fun fr H=>aT X fr H Try.f8.results.toList=some [.bool true]) X (evT X) 8 0 code [] []:=by
 refine⟨_,rfl,?_⟩;obtain⟨ob1,w1,e1⟩:=GK (H:=[]) (a:=.ro 1 (.pb [97,98]) 0) (B:=[97,98]) (s:=3) (mo:=60) (th:=50) (Byt.ro (.inl rfl) (fun h=>by omega)) (by simp) (.inl (by simp)) (by omega);rw[aeP]at w1 e1;have s1:=Na (H:=[some ob1]) (a:=.sl 0 0 9 0) (a2:=.ro 1 (.pb [2,0,0,3,0,0,0,97,98]) 0) (Byt.whole (l:=[2,0,0,3,0,0,0,97,98]) rfl w1) (Byt.ro (.inl rfl) (fun h=>by omega));rw[beq_self_eq_true]at s1;simp only[axY,ax3,ax8]at e1;refine aj.of (o:=⟨.ret,[(0,.bool true)],[some ob1]⟩) ?_ ⟨rfl,rfl⟩;refine⟨0,?_⟩;have e1':=e1;simp at e1';simp[-getElem?_pos,go_sem,aiO,aiP,e1,e1',s1,ak]
def Vl(H:AM.Heap):evT X 8 [] H=some (.bool true,H):=by
 obtain⟨code,hc,ht⟩:=Ov;exact dI (Ev1.rU (l:=[.bool true]) (bC X) Try.func8 hc rfl rfl (by simp[dA]) rfl rfl rfl ht)
section
variable (c:Nat)(b:List UInt8)(k:Nat)(n th:Int)
end
section
variable (c c3:Nat)(rows:List (Nat×List UInt8))(cuts:List Int)(inn out:Int)
def xX(c c3:Nat)(rows:List (Nat×List UInt8))(cuts:List Int)(inn out:Int)(tl:AM.Frame):AM.Frame:=[(0,.ro c (.pc (rows.map xG)) 1),(1,.int .i64 inn),(2,.int .i64 out),(3,.ro c3 (.pi .i64 cuts) 4)]++tl
def aiu:∃ code,Try.f7.body.bind (ay [1,1,0,0])=some code/\Run X (evT X) 7 0 code (xX c c3 rows cuts inn out [(31,.bool false)]) [] ⟨.normal,xX c c3 rows cuts inn out [(55,.bool (decide (10<rows.length\/inn<1\/200<inn\/out<1\/200<out\/3000<cuts.length)))],[]⟩:=by
 refine⟨_,rfl,?_⟩;unfold xX;generalize hC:cuts.length=C at *;by_cases h1:10<rows.length
 .have h1I:(10:Int)<(rows.length:Int):=by omega
  rw[decide_eq_true (.inl h1)];apply Pe;simp[-getElem?_pos,go_sem,h1,h1I]
 have h1I:¬ (10:Int)<(rows.length:Int):=by omega
 by_cases h2:inn<1
 .rw [decide_eq_true (.inr (.inl h2))];apply Pe;simp[-getElem?_pos,go_sem,h1,h1I,h2]
 by_cases h3:200<inn
 .rw [decide_eq_true (.inr (.inr (.inl h3)))];apply Pe;simp[-getElem?_pos,go_sem,h1,h1I,h2,h3]
 by_cases h4:out<1
 .rw [decide_eq_true (.inr (.inr (.inr (.inl h4))))];apply Pe;simp[-getElem?_pos,go_sem,h1,h1I,h2,h3,h4]
 by_cases h5:200<out
 .rw [decide_eq_true (.inr (.inr (.inr (.inr (.inl h5)))))];apply Pe;simp[-getElem?_pos,go_sem,h1,h1I,h2,h3,h4,h5]
 by_cases h6:3000<C
 .have h6I:(3000:Int)<(C:Int):=by omega
  rw[decide_eq_true (.inr (.inr (.inr (.inr (.inr h6)))))];apply Pe;simp[-getElem?_pos,go_sem,hC,h1,h1I,h2,h3,h4,h5,h6,h6I]
 have h6I:¬ (3000:Int)<(C:Int):=by omega
 rw[decide_eq_false (by omega)];apply Pe;simp[-getElem?_pos,go_sem,hC,h1,h1I,h2,h3,h4,h5,h6,h6I]
def Zf{m ou:Nat}(hm:0<m)(hm2:m<=200)(hrl:rows.length<=10)(hrc:∀ r∈rows,r.1=0->r.2=[]):∃ code,Try.f7.body.bind (ay [1,1,1,1,1,0,1])=some code/\aj (Or2 (fun fr E=>∃ g,fr=wQ c c3 m ou rows cuts (stm m (bds rows) 0).length g (stn m (bds rows) 0) rows.length [(59,.bool false)]/\VfI m rows g rows.length E) (fun o=>o.ex=.ret/\aB o.fr 8=.bool true)) X (evT X) 7 0 code (wQ c c3 m ou rows cuts 0 0 0 0 []) [jA]:=by
 refine⟨_,rfl,?_⟩;refine aj.AY (Q:=fun o=>o.ex=.ret/\aB o.fr 8=.bool true) (P:=fun fr E=>∃ g,fr=wQ c c3 m ou rows cuts (stm m (bds rows) 0).length g (stn m (bds rows) 0) rows.length [(59,.bool false)]/\VfI m rows g rows.length E) ?_;refine aj.jP (fun k fr E=>∃ i g,k=rows.length-i/\i<=rows.length/\fr=wQ c c3 m ou rows cuts (stm m ((bds rows).take i) 0).length g (stn m ((bds rows).take i) 0) i []/\VfI m rows g i E) ?_ (k:=rows.length) ⟨0,0,rfl,ayF _,rfl,_,rfl,⟨rfl,rfl,rfl,rfl,rfl⟩,by simp⟩;rintro k fr E ⟨i,g,rfl,hi,rfl,hI⟩;apply aj.assoc;by_cases hin:i<rows.length
 .have hiI:(i:Int)<(rows.length:Int):=by omega
  apply aj.seq (fr':=wQ c c3 m ou rows cuts (stm m ((bds rows).take i) 0).length g (stn m ((bds rows).take i) 0) i [(59,.bool true)]) (H':=E)
  .unfold wQ;generalize (stm m ((bds rows).take i) 0).length=N at *;generalize stn m ((bds rows).take i) 0=sq at *;apply Pe;simp[-getElem?_pos,go_sem,hin,hiI]
  apply aj.seq (fr':=wQ c c3 m ou rows cuts (stm m ((bds rows).take i) 0).length g (stn m ((bds rows).take i) 0) i [(59,.bool true)]) (H':=E)
  .exact Run.cond (d:=true) (by simp[wQ,aJ,aB]) ⟨0,rfl⟩
  refine aj.mono (piece (Zu hm hm2 hrl hrc hin hI) _ rfl) ?_;rintro o (⟨g',E',rfl,h⟩|h)
  .exact .inl ⟨rfl,rows.length-(i+1),by omega,i+1,g',rfl,by omega,rfl,h⟩
  .exact .inr ⟨by rw[h.1];simp,.inr ⟨h.1,h⟩⟩
 .obtain rfl:i=rows.length:=by omega
  have htk:(bds rows).take rows.length=bds rows:=aym (by simp[bds]);rw[htk];refine aj.of (o:=⟨.exit 0,wQ c c3 m ou rows cuts (stm m (bds rows) 0).length g (stn m (bds rows) 0) rows.length [(59,.bool false)],E⟩) ⟨0,?_⟩ (.inr ⟨by simp,.inl ⟨rfl,g,rfl,hI⟩⟩);unfold wQ;generalize (stm m (bds rows) 0).length=N at *;generalize stn m (bds rows) 0=sq at *;simp[-getElem?_pos,go_sem]
end
end Go.Proofs.Ytbodincpjijdiaa
