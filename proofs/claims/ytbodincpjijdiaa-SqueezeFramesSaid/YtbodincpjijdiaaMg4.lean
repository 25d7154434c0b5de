/- IQ to DC: texts of this claim, one behind the other; what each shows stands at its head. -/
import Derived.Test.YtbodincpjijdiaaAm4
import Derived.Test.YtbodincpjijdiaaMg3
set_option linter.defProp false
set_option linter.unusedSimpArgs false
set_option linter.unusedVariables false
set_option maxRecDepth 100000
set_option maxHeartbeats 8000000
namespace Go.Proofs.Ytbodincpjijdiaa
open Go.AM
section
variable {c:Nat}{b:List UInt8}{mo:Int}{t:Nat}{H:AM.Heap}{o:Nat}{oa:Option Nat}{s:Is}
def adn(s:Is)(r:Bool)(i:Nat):wtF [] i (irS c b mo s r)<=1:=by
 cases r<;>simp[irS,wtF,kids,fU,ids,aC]
def Un{f n:Nat}{fn:Func}{code:Code}{xs ys:List AV}{Q:Is->AV->List AV->Prop}(hF:X.P.funcs[f]?=some fn)(hb:fn.body=some code)(hrw:X.rw f 0=false)(h:IrV c b mo t H o oa s)
 (hA:∀ π K,π.map Prod.fst=o::oa.toList->gG X f H π K 1 xs ys)(hi:aC ys=[])(hn:xs.length+2=n)(hng:n<dA)
 (run:∀ m E oa1,oa1.isSome=oa.isSome->(∀ a,oa1=some a->a=1)->E.length=(if oa.isSome then 2 else 1)->IrV c b mo n E 0 oa1 s->∃ code,fn.body=some code/\aj (jO fun fr E'=>∃ s' oa' l ex ps w0,aT X fr E' fn.results.toList=some l/\IrV c b mo n E' 0 oa' s'/\(∀ a,oa1=some a->oa'=some a) /\
  eG n E' ex ps/\(∀ p∈ps,ids p=[]/\tags p=[])/\(0::oa'.toList++ex.map Prod.fst).Nodup/\(ids w0).length<=1000/\(∀ k∈ids w0,k<ex.length)/\(∀ k,k<ex.length->k∈ids w0)/\(∀ k∈tags w0,k=0\/k=n)/\aG l=ren (gQ ex) (fun t=>t) w0/\Q s' w0 ps)
  X (evT X) f m code (numbered 0 (coerce X (.ptr 0 0 0 0::ys) (aI X f))) E) :
 ∃ H' oa' s' w0 ex ps τf,evT X f (.ptr o 0 0 0::xs) H=some (ren (gQ ex) τf w0,H')/\(∀ k∈tags w0,τf k=0\/τf k=t)/\IrV c b mo t H' o oa' s'/\eG t H' ex ps/\(∀ x∈ex,H.length<=x.1)/\(o::oa'.toList++ex.map Prod.fst).Nodup/\Q s' w0 ps/\Kpt H H' o oa oa':=by
 obtain⟨π,hI,hπ,hπ0⟩:=h.img;have hK:0<(irS c b mo s oa.isSome).length:=by rw[gW];split<;>omega
 have hA2:gG X f H π (irS c b mo s oa.isSome).length 0 (.ptr o 0 0 0::xs) (.ptr 0 0 0 0::ys):=gG.ptr hI hrw hπ0 hK (hA π _ hπ);have hso:∀ {H:AM.Heap} {t o:Nat} {oa:Option Nat} {s:Is},IrV c b mo t H o oa s->oa.isSome=false->s.o=[]:=by
  intro H t o oa s h h1;cases oa with
  | some a=>cases h1
  | none=>obtain⟨⟨vo,τ1,τ,_,_,_,ho⟩,_⟩:=h;exact ho.1
 obtain⟨π'',S',v0,H',τf,hE,hτf,hI',hok',hid,⟨s',w0,ps,r',hS',hv0,hr',hQ,hf,hmono,hiw⟩,hlen,hfix,hnew,hrest⟩:=Ev1.img (C:=X) (T:=evT X) (f:=f) (H:=H) (n:=n) (ys:=.ptr 0 0 0 0::ys)
  (Q:=fun S' v0=>∃ s' w0 ps r',S'=irS c b mo s' r'++ps.map rwF/\v0=dL (irS c b mo s' r').length w0/\(r'=false->s'.o=[])/\Q s' w0 ps/\(∀ p∈ps,ids p=[]/\tags p=[])/\(oa.isSome=true->r'=true)/\∀ k∈ids w0,k<ps.length) (bC X) hF hb hI (Ci c b mo s _) hA2
  (by rw[show aC (AV.ptr 0 0 0 0::ys)=[0]by simp[aC,ids,hi]];exact Cj c b mo s _) (by simp;omega) hng (by
   intro E hEl hEI;obtain⟨oa1,hV,hπ1,hs1,FC⟩:=IrV.nP hEI (by rw[qL,if_pos hK]) (hso h);have ha1:∀ a,oa1=some a->a=1:=by
    intro a ha;obtain⟨g,hg⟩:=FC a ha;rw[qL]at hg;split at hg
    .simp at hg;omega
    .cases hg
   obtain⟨nM,hc2,out,hout,hrun⟩:=run (irS c b mo s oa.isSome).length E oa1 hs1 ha1 (by rw[hEl,gW]) hV;rw[hb]at hc2;obtain rfl:=axN hc2;refine⟨out,⟨hout.1,?_⟩,hrun⟩;obtain⟨s',oa',l,ex,ps,w0,hr,hV',hm,D5,hf,hnd,hw0,hw1,hw2,hw3,hw4,hQ⟩:=hout.2;obtain⟨π',hI',hπ',FD⟩:=hV'.img;have hnd':(π'.map Prod.fst++ex.map Prod.fst).Nodup:=by rw[hπ'];exact hnd
   have hI2:=hI'.append (Ci c b mo s' _) D5 hf hnd';have hlr:=hI'.len;have Wp:=D5.len;have JZ:(irS c b mo s' oa'.isSome++ps.map rwF).length=(irS c b mo s' oa'.isSome).length+ex.length:=by simp[Wp]
   have ado:(irS c b mo s oa.isSome).length<=(irS c b mo s' oa'.isSome).length:=by
    rw[gW,gW];cases hx:oa1 with
    | none=>rw[<- hs1,hx];cases oa'.isSome<;>simp
    | some a=>rw[hm a hx];split<;>simp
   have jQ:=Uo (irS c b mo s' oa'.isSome).length w0;have hfuel:(List.range (irS c b mo s oa.isSome).length++ids (dL (irS c b mo s' oa'.isSome).length w0)).length+wtF [] 0 (irS c b mo s' oa'.isSome++ps.map rwF)<=aA:=by
    rw[ES,Ak,jQ];have h1:=adn (c:=c) (b:=b) (mo:=mo) s' oa'.isSome 0;have h2:(irS c b mo s oa.isSome).length<=2:=by rw[gW];split<;>omega
    simp only[axR,azV,ayB];show _<=100000;omega
   refine⟨π'++ex,irS c b mo s' oa'.isSome++ps.map rwF,dL (irS c b mo s' oa'.isSome).length w0,l,hr,?_,hI2,(Ci c b mo s' _).rows hf,?_,?_,by rw[JZ];omega,?_,?_,?_,s',w0,ps,oa'.isSome,rfl,rfl,hso hV',hQ,hf,?_,fun k hk=>by rw[<- Wp];exact hw1 k hk⟩
   .rw [Ur hlr];exact hw4
   .rw [FH];exact hw3
   .intro k hk;rw[jQ]at hk;obtain⟨k',hk',rfl⟩:=ayd.1 hk;have:=hw1 k' hk';rw[JZ];omega
   .intro k hk;rw[gW]at hk;have hk0:k=0\/(k=1/\oa.isSome=true):=by
     split at hk
     .rename_i hq;have:k=0\/k=1:=by omega
      rcases this with h|h
      .exact .inl h
      .exact .inr ⟨h,hq⟩
     .exact .inl (by omega)
    have am4:0<π'.length:=by rw[hlr,gW];split<;>omega
    rcases hk0 with rfl|⟨rfl,hq⟩
    .exact ⟨0,by rw[axL am4];exact FD⟩
    .rw [<- hs1]at hq;obtain⟨a,ha⟩:=ayn.1 hq;have:=ha1 a ha;subst this;have Wq:=hm 1 ha;have h1:(π'.map Prod.fst)[1]?=some 1:=by rw[hπ',Wq];rfl
     rw[axP]at h1;cases hp:π'[1]? with
     | none=>rw[hp]at h1;cases h1
     | some x=>
      rw[hp]at h1;simp at h1;exact⟨x.2,by rw[axL (eX hp),hp,<- h1]⟩
   .intro k ob ob' h1 h2;have hkl:=eX h1;rw[axL (by omega)]at h2;cases hx:oa.isSome<;>cases hy:oa'.isSome<;>rw[hx]at h1<;>rw[hy]at h2
    all_goals
     match k,h1,h2 with
     | 0,h1,h2=>
      have e1:=axN h1;have e2:=axN h2;subst e1 e2;rfl
     | 1,h1,h2=>first|(simp[irS]at h1;done)|(simp[irS]at h2;done)|(
      have e1:=axN h1;have e2:=axN h2;subst e1 e2;rfl)
     | k+2,h1,h2=>simp[irS]at h1
   .intro k hk1 hk2;rw[JZ]at hk2;by_cases hkr:k<(irS c b mo s' oa'.isSome).length
    .have hk:k=1/\oa'.isSome=true:=by
      rw[gW]at hkr hk1;cases hx:oa'.isSome
      .rw [hx]at hkr;simp at hkr;split at hk1<;>omega
      .rw [hx]at hkr;simp at hkr;split at hk1
       .omega
       .exact ⟨by omega,rfl⟩
     obtain⟨rfl,hy⟩:=hk;refine Cm hfuel (x:=0) (ob:=fU c b mo s' (.sl 1 0 s'.o.length 0) 0 0) (oU hfuel (ayW _ (ayh.2 hK)) (by rw[JZ];omega)) ?_ (by simp[kids,fU,ids,aC]) (by rw[JZ];omega);rw[axL (by omega),hy];rfl
    .refine oU hfuel (ay2 _ ?_) (by rw[JZ];omega);rw[jQ];exact ayd.2 ⟨k-(irS c b mo s' oa'.isSome).length,hw2 _ (by omega),by omega⟩
   .intro hq;rw[<- hs1]at hq;obtain⟨a,ha⟩:=ayn.1 hq;rw[hm a ha];rfl)
 subst hS' hv0;obtain⟨g0,hg0⟩:=hfix 0 o 0 hπ0;have hI3:=hI'.pre (Ci c b mo s' r');have hRw:=hI'.rows hf;have PD:g0=0:=by
  obtain⟨o',g',ob,q1,q2,q3⟩:=hI3.ob 0 _ (by cases r'<;>rfl:(irS c b mo s' r')[0]?=some (fU c b mo s' (if r' then .sl 1 0 s'.o.length 0 else .ro 0 .pn 0) 0 0));rw[ayD]at q1;split at q1
  .rw [hg0]at q1;simp only[axH,axJ]at q1;obtain⟨_,rfl⟩:=q1;exact(q3.bx rfl).2.2
  .cases q1
 subst PD;have hrl:0<(irS c b mo s' r').length:=by rw[gW];split<;>omega
 obtain⟨oa',hV',Md,hs',hat'⟩:=IrV.nP hI3 (by rw[ayD,if_pos hrl];exact hg0) hr';rw[PE]at hE;have ado:(irS c b mo s oa.isSome).length<=(irS c b mo s' r').length:=by
  rw[gW,gW];cases hx:oa.isSome
  .simp;split<;>omega
  .rw [hmono hx];simp
 refine⟨H',oa',s',w0,_,ps,τf,dI hE,?_,hV',hRw,?_,?_,hQ,⟨hlen,?_,?_,?_⟩⟩
 .intro k hk;exact hτf k (by rw[FH];exact hk)
 .intro x hx;obtain⟨k,hk,rfl⟩:=azr.1 hx;rw[List.getElem_drop];have hkl:(irS c b mo s' r').length+k<π''.length:=by simp at hk;omega
  exact hnew ((irS c b mo s' r').length+k) _ _ (by omega) (axI hkl)
 .have:=hI'.nodup;rw[show π''.map Prod.fst=(π''.take (irS c b mo s' r').length).map Prod.fst++(π''.drop (irS c b mo s' r').length).map Prod.fst by rw[<- ayy,azq],Md]at this;exact this
 .intro a ha;subst ha;cases oa' with
  | none=>
   have:=hmono rfl;rw[this]at hs';cases hs'
  | some a'=>
   obtain⟨g,hg⟩:=hat' a' rfl;rw[ayD]at hg;split at hg
   .have h1:(π.map Prod.fst)[1]?=some a:=by rw[hπ];rfl
    rw[axP]at h1;cases hp:π[1]? with
    | none=>rw[hp]at h1;cases h1
    | some x=>
     rw[hp]at h1;simp at h1;obtain⟨g2,hg2⟩:=hfix 1 x.1 x.2 hp;rw[hg]at hg2;simp at hg2;rw[hg2.1,h1]
   .cases hg
 .intro a ha ha';subst ha ha';obtain⟨g,hg⟩:=hat' a rfl;rw[ayD]at hg;split at hg
  .exact hnew 1 a g (by rw[gW];simp) hg
  .cases hg
 .intro j hj hjo hja;refine hrest j hj ?_;intro k x g hk e;have h1:x∈π.map Prod.fst:=ayd.2 ⟨(x,g),axT hk,rfl⟩;rw[hπ]at h1;rcases ax2.1 h1 with h1|h1
  .exact hjo (e.trans h1)
  .cases oa with
   | none=>simp at h1
   | some a=>
    simp at h1;exact hja a rfl (e.trans h1)
end
structure Ws where
 k:Nat
 o:List UInt8
def jH(s:Ws)(vo:AV)(τ:Nat):AM.Obj:=⟨.pc [vo,.int .i64 (s.k:Nat)],0,some 2,1,false,true,τ⟩
def OuW(t:Nat)(H:AM.Heap)(oa:Option Nat)(vo:AV)(l:List UInt8):Prop:=match oa with
 | none=>l=[]/\∃ τ,(τ=0\/τ=t)/\vo=.ro 0 .pn τ
 | some a=>∃ g τ ob,(τ=0\/τ=t)/\vo=.sl a 0 l.length g/\H[a]?=some (some ob)/\RwT (.pb l) g τ ob
structure WrV (t:Nat) (H:AM.Heap) (o:Nat) (oa:Option Nat) (s:Ws):Prop where
 bx:∃ vo τ,(τ=0\/τ=t)/\H[o]?=some (some (jH s vo τ))/\OuW t H oa vo s.o
 ne:∀ a,oa=some a->a≠o
def wrS(s:Ws):Bool->List AM.Obj
 | false=>[jH s (.ro 0 .pn 0) 0]
 | true=>[jH s (.sl 1 0 s.o.length 0) 0,⟨.pb s.o,0,none,0,true,false,0⟩]
section
variable {t:Nat}{H:AM.Heap}{o:Nat}{oa:Option Nat}{s:Ws}
def Wu(s:Ws)(r:Bool):OkS (wrS s r):=by
 intro k ob0 hk x hx;cases r
 .cases k with
  | zero=>
   obtain rfl:=axN hk;simp[jH,ids,aC]at hx
  | succ k=>simp[wrS]at hk
 .match k,hk with
  | 0,hk=>
   obtain rfl:=axN hk;simp[jH,ids,aC]at hx;subst hx;simp[wrS]
  | 1,hk=>
   obtain rfl:=axN hk;simp[ids]at hx
  | k+2,hk=>simp[wrS]at hk
def pY(s:Ws)(r:Bool):(wrS s r).length=if r then 2 else 1:=by cases r<;>rfl
def IY(s:Ws)(r:Bool):reach ((wrS s r).map some) aA [0] []=List.range (wrS s r).length:=by
 cases r
 .exact kV rfl (by simp[jH,ids,aC])
 .show reach _ (99996+1+1+1+1) [0] []=[0,1];simp[wrS,jH,reach,ids,aC]
def WrV.img(h:WrV t H o oa s):∃ π,Img t H π (wrS s oa.isSome)/\π.map Prod.fst=o::oa.toList/\π[0]?=some (o,0):=by
 obtain⟨⟨vo,τ,hτ,h0,ho⟩,hne⟩:=h;cases oa with
 | none=>
  obtain⟨hl,τ2,hτ2,rfl⟩:=ho;refine⟨[(o,0)],⟨rfl,?_,?_⟩,rfl,rfl⟩
  .intro j k oj gj ok gk h1 h2 _;have:=eX h1;have:=eX h2;simp at *;omega
  .intro k ob0 hk;cases k with
   | succ k=>simp[wrS]at hk
   | zero=>
    obtain rfl:=axN hk;refine⟨o,0,_,rfl,h0,⟨?_,rfl,rfl,rfl,fun _=>⟨rfl,rfl,rfl⟩,hτ,?_⟩⟩
    .simp [jH,ren,bU,tz]
    .intro k hk;simp[jH,tags,aW]at hk;rw[hk];exact hτ2
 | some a=>
  obtain⟨g,τ2,ob,hτ2,rfl,ha,hw⟩:=ho;have hao:=hne a rfl;refine⟨[(o,0),(a,g)],⟨rfl,?_,?_⟩,rfl,rfl⟩
  .intro j k oj gj ok gk h1 h2 e
   match j,k,h1,h2 with
   | 0,0,_,_=>rfl
   | 1,1,_,_=>rfl
   | 0,1,h1,h2=>simp at h1 h2;omega
   | 1,0,h1,h2=>simp at h1 h2;omega
   | j+2,_,h1,_=>simp at h1
   | 0,k+2,_,h2=>simp at h2
   | 1,k+2,_,h2=>simp at h2
  .intro k ob0 hk
   match k,hk with
   | 0,hk=>
    obtain rfl:=axN hk;refine⟨o,0,_,rfl,h0,⟨?_,rfl,rfl,rfl,fun _=>⟨rfl,rfl,rfl⟩,hτ,?_⟩⟩
    .simp [jH,ren,bU,tz,gQ,idN]
    .intro k hk;simp[jH,tags,aW]at hk
   | 1,hk=>
    obtain rfl:=axN hk;refine⟨a,g,ob,rfl,ha,⟨by rw[hw.p];rfl,hw.g,hw.row,hw.ids,(fun h=>by cases h),by rw[hw.tg];exact hτ2,?_⟩⟩;intro k hk;rw[hw.p]at hk;simp[tags]at hk
   | k+2,hk=>simp[wrS]at hk
def WrV.nP{π:List (Nat×Nat)}{r:Bool}(h:Img t H π (wrS s r))(h0:π[0]?=some (o,0))(hr:r=false->s.o=[]):∃ oa,WrV t H o oa s/\π.map Prod.fst=o::oa.toList/\oa.isSome=r/\(∀ a,oa=some a->∃ g,π[1]?=some (a,g)):=by
 obtain⟨o',g',ob,q1,q2,q3⟩:=h.ob 0 _ (by cases r<;>rfl:(wrS s r)[0]?=some (jH s (if r then .sl 1 0 s.o.length 0 else .ro 0 .pn 0) 0));rw[h0]at q1;simp only[axH,axJ]at q1;obtain⟨rfl,rfl⟩:=q1;obtain⟨b1,b2,_⟩:=q3.bx rfl;obtain⟨p,g,cap,z,row,idb,tg⟩:=ob;have r2:=q3.gen;have r3:=q3.row;have r4:=q3.ids;have r5:=q3.tg;have r6:=q3.tp;have r1:=q3.p;simp only[jH]at r1 r2 r3 r4 r5 r6 b1 b2;subst r2 r3 r4 b1 b2;simp only[ren,bU]at r1;obtain⟨l1,rfl,k1⟩:=wV r1;obtain⟨x3,l2,rfl,e3,k2⟩:=fM k1;obtain⟨x2,l3,rfl,e2,k3⟩:=fM k2;obtain rfl:=qg k3;obtain rfl:=nR e2;cases r with
 | false=>
  simp only[axZ,if_false,ren]at e3;obtain⟨τ2,rfl⟩:=wW e3;have hτ2:τ2=0\/τ2=t:=r6 τ2 (by simp[tags,aW]);have hl:=h.len;refine⟨none,⟨⟨_,tg,r5,q2,hr rfl,τ2,hτ2,rfl⟩,fun a h=>by cases h⟩,?_,rfl,fun a h=>by cases h⟩
  match π,hl,h0 with
  | [x],_,h0=>simp at h0;subst h0;rfl
 | true=>
  obtain⟨a,g,ob,p1,p2,p3⟩:=h.ob 1 _ rfl;simp only[if_true,ren,gQ,p1]at e3;obtain rfl:=CB e3;have hl:=h.len;have hne:a≠o:=fun e=>by have:=h.nd 1 0 a g o 0 p1 h0 e;omega
  have ep:=p3.p;simp only[ren]at ep;refine⟨some a,⟨⟨_,tg,r5,q2,g,ob.tg,ob,p3.tg,rfl,p2,J3 ep,p3.gen,p3.row,p3.ids,rfl⟩,fun a' h=>by cases h;exact hne⟩,?_,rfl,fun a' h=>by cases h;exact⟨g,p1⟩⟩
  match π,hl,h0,p1 with
  | [x,y],_,h0,p1=>simp at h0 p1;subst h0 p1;rfl
def Me{f n:Nat}{fn:Func}{code:Code}{xs ys:List AV}{Q:Ws->List AV->Bool->Prop}(hF:X.P.funcs[f]?=some fn)(hb:fn.body=some code)(hrw:X.rw f 0=false)(h:WrV t H o oa s)
 (hA:∀ π K,π.map Prod.fst=o::oa.toList->gG X f H π K 1 xs ys)(hi:aC ys=[])(hn:xs.length+2=n)(hng:n<dA)
 (run:∀ m E,WrV n E 0 (oa.map fun _=>1) s->aj (jO fun fr E'=>∃ s' oa' l,aT X fr E' fn.results.toList=some l/\aC l=[]/\aW l=[]/\dB l=true/\WrV n E' 0 oa' s'/\(oa≠none->oa'=some 1)/\Q s' l oa'.isSome)
  X (evT X) f m code (numbered 0 (coerce X (.ptr 0 0 0 0::ys) (aI X f))) E) :
 ∃ H' oa' s' l,evT X f (.ptr o 0 0 0::xs) H=some (aG l,H')/\WrV t H' o oa' s'/\Q s' l oa'.isSome/\H.length<=H'.length/\(∀ a,oa=some a->oa'=some a)/\(∀ a,oa=none->oa'=some a->H.length<=a) /\
  (∀ j,j<H.length->j≠o->(∀ a,oa=some a->j≠a)->H'[j]?=H[j]?):=by
 obtain⟨π,hI,hπ,hπ0⟩:=h.img;have hK:0<(wrS s oa.isSome).length:=by rw[pY];split<;>omega
 have hA':=(hA π (wrS s oa.isSome).length hπ);have hA2:gG X f H π (wrS s oa.isSome).length 0 (.ptr o 0 0 0::xs) (.ptr 0 0 0 0::ys):=gG.ptr hI hrw hπ0 hK hA';have hoa:oa.isSome=false->s.o=[]:=by
  intro h1;cases oa with
  | some a=>cases h1
  | none=>obtain⟨⟨vo,τ,_,_,ho⟩,_⟩:=h;exact ho.1
 obtain⟨π'',S',v0,H',τf,hE,hτf,hI',hok',hid,⟨s',l,r',hS',hv0,hr',hQ,hil⟩,hlen,hfix,hnew,hrest⟩:=Ev1.img (C:=X) (T:=evT X) (f:=f) (H:=H) (n:=n) (ys:=.ptr 0 0 0 0::ys) (Q:=fun S' v0=>∃ s' l r',S'=wrS s' r'/\v0=aG l/\(r'=false->s'.o=[])/\Q s' l r'/\aC l=[]/\aW l=[]/\dB l=true/\(oa.isSome=true->r'=true)) (bC X) hF hb hI (Wu s _) hA2
  (by rw[show aC (AV.ptr 0 0 0 0::ys)=[0]by simp[aC,ids,hi]];exact IY s _) (by simp;omega) hng (by
   intro E hEl hEI;obtain⟨oa1,hV,hπ1,hs1,FC⟩:=WrV.nP hEI (by rw[qL,if_pos hK]) hoa;have PG:oa1=oa.map fun _=>1:=by
    cases oa with
    | none=>cases oa1 with
     | none=>rfl
     | some a=>cases hs1
    | some a=>cases oa1 with
     | none=>cases hs1
     | some a1=>
      obtain⟨g,hg⟩:=FC a1 rfl;rw[qL]at hg;simp[pY]at hg;rw[axM,<- hg.1]
   rw[PG]at hV;obtain⟨out,hout,hrun⟩:=run (wrS s oa.isSome).length E hV;refine⟨out,⟨hout.1,?_⟩,hrun⟩;obtain⟨s',oa',l,hr,hil,htl,hnt,hV',ho',hQ⟩:=hout.2;obtain⟨π',hI',hπ',FD⟩:=hV'.img;have Wq:oa'.isSome=false->s'.o=[]:=by
    intro h1;cases oa' with
    | some a=>cases h1
    | none=>obtain⟨⟨vo,τ,_,_,ho⟩,_⟩:=hV';exact ho.1
   refine Leaves.plain hr hil htl hnt hI' (Wu s' _) ?_ ?_ ?_ ?_ ⟨s',l,_,rfl,rfl,Wq,hQ,hil,htl,hnt,?_⟩
   .rw [pY,pY];cases oa with
    | none=>cases oa'.isSome<;>simp
    | some a=>rw[ho' (by simp)];simp
   .intro k hk;cases oa with
    | none=>
     rw[pY]at hk;simp at hk;subst hk;exact⟨0,FD⟩
    | some a=>
     rw[pY]at hk;simp at hk;have:k=0\/k=1:=by omega
     rcases this with rfl|rfl
     .exact ⟨0,FD⟩
     .rw [ho' (by simp)]at hπ';have h1:(π'.map Prod.fst)[1]?=some 1:=by rw[hπ'];rfl
      rw[axP]at h1;cases hp:π'[1]? with
      | none=>rw[hp]at h1;cases h1
      | some x=>
       rw[hp]at h1;simp at h1;exact⟨x.2,by rw[<- h1]⟩
   .intro k ob ob' h1 h2;cases hx:oa.isSome<;>cases hy:oa'.isSome<;>rw[hx]at h1<;>rw[hy]at h2
    all_goals
     match k,h1,h2 with
     | 0,h1,h2=>
      have e1:=axN h1;have e2:=axN h2;subst e1 e2;rfl
     | 1,h1,h2=>first|(simp[wrS]at h1;done)|(simp[wrS]at h2;done)|(
      have e1:=axN h1;have e2:=axN h2;subst e1 e2;rfl)
     | k+2,h1,h2=>simp[wrS]at h1
   .intro k hk1 hk2;cases hx:oa.isSome<;>cases hy:oa'.isSome<;>rw[hx,pY]at hk1<;>rw[hy,pY]at hk2<;>simp at hk1 hk2
    all_goals first|omega|skip
    have:k=1:=by omega
    subst this;rw[show List.range (wrS s false).length=[0] from rfl,IY];rw[pY];simp
   .intro h1;cases oa with
    | none=>cases h1
    | some a=>rw[ho' (by simp)];rfl)
 subst hS' hv0;obtain⟨g0,hg0⟩:=hfix 0 o 0 hπ0;have PD:g0=0:=by obtain⟨o',g',ob,q1,q2,q3⟩:=hI'.ob 0 _ (by cases r'<;>rfl:(wrS s' r')[0]?=some (jH s' (if r' then .sl 1 0 s'.o.length 0 else .ro 0 .pn 0) 0));rw[hg0]at q1;simp only[axH,axJ]at q1;obtain⟨_,rfl⟩:=q1;exact(q3.bx rfl).2.2
 subst PD;obtain⟨oa',hV',Md,hs',hat'⟩:=WrV.nP hI' hg0 hr';obtain⟨hil,htl,hnt,hmono⟩:=hil;rw[gX (aG l) (by rw[iK hnt];exact hil) (fun k hk=>by rw[gV hnt,htl]at hk;cases hk)]at hE;refine⟨H',oa',s',l,dI hE,hV',by rw[hs'];exact hQ,hlen,?_,?_,?_⟩
 .intro a ha;subst ha;cases oa' with
  | none=>
   have:=hmono rfl;rw[this]at hs';cases hs'
  | some a'=>
   obtain⟨g,hg⟩:=hat' a' rfl;have h1:(π.map Prod.fst)[1]?=some a:=by rw[hπ];rfl
   rw[axP]at h1;cases hp:π[1]? with
   | none=>rw[hp]at h1;cases h1
   | some x=>
    rw[hp]at h1;simp at h1;obtain⟨g2,hg2⟩:=hfix 1 x.1 x.2 hp;rw[hg]at hg2;simp at hg2;rw[hg2.1,h1]
 .intro a ha ha';subst ha ha';obtain⟨g,hg⟩:=hat' a rfl;exact hnew 1 a g (by rw[pY];simp) hg
 .intro j hj hjo hja;refine hrest j hj ?_;intro k x g hk e;have h1:x∈π.map Prod.fst:=ayd.2 ⟨(x,g),axT hk,rfl⟩;rw[hπ]at h1;rcases ax2.1 h1 with h1|h1
  .exact hjo (e.trans h1)
  .cases oa with
   | none=>simp at h1
   | some a=>
    simp at h1;exact hja a rfl (e.trans h1)
end
def afJ(x:Int):IntKind.i64.wrap ((AM.bits .i64 x&&& AM.bits .i64 1).toNat:Nat)=((x%2).toNat:Nat):=by
 have h1:(AM.bits .i64 1).toNat=1:=by decide
 have h2:(AM.bits .i64 x).toNat%2=(x%2).toNat:=by unfold AM.bits;rw[az8];show(x%18446744073709551616).toNat%2=_;omega
 rw[azY,h1,az9,h2,wrap_i64 (by omega) (by omega)]
def J4{v:Nat}(h:v<256):(AM.bits .u8 (v:Int)).toNat=v:=by
 unfold AM.bits;rw[az8];show((v:Int)%256).toNat=v;omega
def wu8{v:Nat}(h:v<256):IntKind.u8.wrap (v:Int)=(v:Int):=by
 show(v:Int)%256=v;omega
def afK{u k:Nat}(hu:u<2)(hk:k<8):u*2 ^ k<256:=by
 have h1:2 ^ k<=2 ^ 7:=ayo (by omega) (by omega);have:u*2 ^ k<=1*2 ^ 7:=Nat.mul_le_mul (by omega) h1;omega
def orB(y:UInt8)(x:Int)(k:Nat):UInt8:=UInt8.ofNat (y.toNat||| (x % 2).toNat * 2 ^ k)
def qM(s:Ws)(x:Int):Ws:=⟨s.k+1,(if s.k%8=0 then s.o++[0]else s.o).set (s.k/8) (orB ((if s.k%8=0 then s.o++[0]else s.o).getD (s.k/8) 0) x (s.k%8))⟩
section
variable {t:Nat}{H:AM.Heap}{o:Nat}{oa:Option Nat}{s:Ws}
def afL{m a g τ τ2:Nat}{x:Int}{ob:AM.Obj}{E:AM.Heap}{y:UInt8}{tl:AM.Frame}(h0:E[0]?=some (some (jH s (.sl a 0 s.o.length g) τ)))(ha:E[a]?=some (some ob))(hw:RwT (.pb s.o) g τ2 ob)(hk:s.k/8<s.o.length)(hy:s.o[s.k/8]?=some y)(hl:s.k<=10000000) :
 ∃ ob',RwT (.pb (s.o.set (s.k/8) (orB y x (s.k%8)))) g τ2 ob'/\∃ code,Try.f76.body.bind (ay [1,0])=some code/\Run X (evT X) 76 m code ((0,.ptr 0 0 0 0)::(1,.int .i64 x)::tl) E ⟨.normal,[(0,.ptr 0 0 0 0)],upd E a (some ob')⟩:=by
 have q1:=hw.p;have q2:=hw.g;have q4:=hw.ids;have q5:=hw.tg;simp only[jH]at h0;have w2:((s.k:Nat):Int).tdiv 8=((s.k/8:Nat):Int):=by rw[ayR (by omega)];omega
 have w2':((s.k:Nat):Int)/8=((s.k/8:Nat):Int):=by omega
 have w3:((s.k:Nat):Int).tmod 8=((s.k%8:Nat):Int):=by rw[ay9 (by omega)];omega
 have w3':((s.k:Nat):Int)%8=((s.k%8:Nat):Int):=by omega
 have w4:IntKind.i64.wrap ((s.k/8:Nat):Int)=((s.k/8:Nat):Int):=wrap_i64 (by omega) (by omega);have w5:IntKind.i64.wrap ((s.k%8:Nat):Int)=((s.k%8:Nat):Int):=wrap_i64 (by omega) (by omega);have hkI:((s.k/8:Nat):Int)<(s.o.length:Int):=by omega
 have hkr:s.k%8<8:=azS _ (by omega);have hx2:(x%2).toNat<2:=by omega
 have hy2:=y.toNat_lt;have hsh:=afK hx2 hkr;have hor:y.toNat||| (x % 2).toNat * 2 ^ (s.k % 8)<256:=aAd (n:=8) hy2 hsh;have f1:¬ ((s.k%8:Nat):Int)<0:=by omega
 have f2:IntKind.u8.wrap (IntKind.u8.wrap (IntKind.i64.wrap ((AM.bits .i64 x&&& AM.bits .i64 1).toNat:Nat)) * 2 ^ min (s.k % 8) 8)=(((x % 2).toNat * 2 ^ (s.k % 8):Nat):Int):=by
  rw[afJ,wu8 (by omega),ayG (by omega)];have e:(((x % 2).toNat:Nat):Int) * 2 ^ (s.k % 8)=(((x % 2).toNat * 2 ^ (s.k % 8):Nat):Int):=by push_cast;rfl
  rw[e,wu8 hsh]
 have f3:IntKind.u8.wrap ((AM.bits .u8 ((y.toNat:Nat):Int)||| AM.bits .u8 (((x % 2).toNat * 2 ^ (s.k % 8):Nat):Int)).toNat:Nat)=((y.toNat||| (x % 2).toNat * 2 ^ (s.k % 8):Nat):Int):=by rw[az7,J4 hy2,J4 hsh,wu8 hor]
 have hwI:((y.toNat||| (x % 2).toNat * 2 ^ (s.k % 8):Nat):Int)<256:=by omega
 refine⟨{ ob with p:=.pb (s.o.set (s.k/8) (orB y x (s.k%8))) },⟨rfl,hw.g,hw.row,hw.ids,hw.tg⟩,_,rfl,?_⟩;unfold orB;generalize (x % 2).toNat * 2 ^ (s.k % 8)=sh at *;generalize y.toNat||| sh=wv at *;generalize s.k/8=kd at *;generalize s.k % 8=kr at *;generalize hN:s.o.length=N at *;generalize s.o=B at *;have hτ:(if τ2=0 then some 0 else some τ2)=some τ2:=by
  split
  .rename_i h;rw[h]
  .rfl
 simp only[go_sem]at f2 f3;refine⟨0,?_⟩;simp[-getElem?_pos,go_sem,retag,h0,ha,q1,q2,q4,q5,w2,w2',w3,w3',w4,w5,hk,hkI,hy,hN,f1,f2,f3,hwI,hτ]
end
structure Kpw (H H':AM.Heap) (o:Nat) (oa oa':Option Nat):Prop where
 len:H.length<=H'.length
 same:∀ a,oa=some a->oa'=some a
 new:∀ a,oa=none->oa'=some a->H.length<=a
 rest:∀ j,j<H.length->j≠o->(∀ a,oa=some a->j≠a)->H'[j]?=H[j]?
def Kpw.refl(H:AM.Heap)(o:Nat)(oa:Option Nat):Kpw H H o oa oa:=⟨axO _,fun _ h=>h,fun a h h2=>(by rw[h]at h2;cases h2),fun _ _ _ _=>rfl⟩
def Kpw.trans{H H1 H2:AM.Heap}{o:Nat}{oa oa1 oa2:Option Nat}(h:Kpw H H1 o oa oa1)(h2:Kpw H1 H2 o oa1 oa2):Kpw H H2 o oa oa2 where
 len:=ayO h.len h2.len
 same:=fun a ha=>h2.same a (h.same a ha)
 new:=by
  intro a ha ha2;cases h1:oa1 with
  | none=>exact ayO h.len (h2.new a h1 ha2)
  | some x=>
   have:=h2.same x h1;rw[ha2]at this;cases this;exact h.new a ha h1
 rest:=by
  intro j hj hjo hja;rw[h2.rest j (ayw hj h.len) hjo ?_,h.rest j hj hjo hja];intro a ha;cases h1:oa with
  | none=>have:=h.new a h1 ha;omega
  | some x=>
   have:=h.same x h1;rw[ha]at this;cases this;exact hja a h1
def Kpw.upd{H:AM.Heap}{o:Nat}{oa:Option Nat}(x:Option AM.Obj):Kpw H (AM.upd H o x) o oa oa where
 len:=by simp[AM.upd]
 same:=fun _ h=>h
 new:=fun a h h2=>by rw[h]at h2;cases h2
 rest:=fun j hj hjo _=>by unfold AM.upd;rw[axU (ax6 hjo)]
def Kpw.cat{H:AM.Heap}{o:Nat}{oa:Option Nat}(r:AM.Heap):Kpw H (H++r) o oa oa where
 len:=by simp
 same:=fun _ h=>h
 new:=fun a h h2=>by rw[h]at h2;cases h2
 rest:=fun j hj hjo _=>axL hj
section
variable {t:Nat}{H:AM.Heap}{o:Nat}{oa:Option Nat}{s:Ws}
def OuW.upd{vo:AV}{l:List UInt8}{x:Option AM.Obj}(h:OuW t H oa vo l)(hne:∀ a,oa=some a->a≠o):OuW t (AM.upd H o x) oa vo l:=by
 cases oa with
 | none=>exact h
 | some a=>
  obtain⟨g,τ,ob,h1,h2,h3,h4⟩:=h;exact⟨g,τ,ob,h1,h2,rV h3 (ax6 (hne a rfl)),h4⟩
def WrV.set{s':Ws}{vo:AV}{τ:Nat}(hne:∀ a,oa=some a->a≠o)(h2:τ=0\/τ=t)(ho:o<H.length)(hv:OuW t H oa vo s'.o):WrV t (AM.upd H o (some (jH s' vo τ))) o oa s' :=
 ⟨⟨vo,τ,h2,by unfold AM.upd;rw[ayx ho],hv.upd hne⟩,hne⟩
def WrV.lt(h:WrV t H o oa s):o<H.length/\∀ a,oa=some a->a<H.length:=by
 obtain⟨⟨vo,τ,_,h0,ho⟩,_⟩:=h;refine⟨eX h0,fun a ha=>?_⟩;subst ha;obtain⟨g,τ,ob,_,_,h3,_⟩:=ho;exact eX h3
def WrV.keep{H':AM.Heap}(h:WrV t H o oa s)(h1:H'[o]?=H[o]?)(h2:∀ a,oa=some a->H'[a]?=H[a]?):WrV t H' o oa s:=by
 obtain⟨⟨vo,τ,a1,h0,ho⟩,hne⟩:=h;refine⟨⟨vo,τ,a1,by rw[h1];exact h0,?_⟩,hne⟩;cases oa with
 | none=>exact ho
 | some a=>
  obtain⟨g,τ,ob,b1,b2,b3,b4⟩:=ho;exact⟨g,τ,ob,b1,b2,by rw[h2 a rfl];exact b3,b4⟩
def WrV.cat{r:AM.Heap}(h:WrV t H o oa s):WrV t (H++r) o oa s:=h.keep (axL h.lt.1) fun a ha=>axL (h.lt.2 a ha)
def WrV.other{j:Nat}{x:Option AM.Obj}(h:WrV t H o oa s)(h1:j≠o)(h2:∀ a,oa=some a->j≠a):WrV t (AM.upd H j x) o oa s :=
 h.keep (by unfold AM.upd;rw[axU h1]) fun a ha=>by unfold AM.upd;rw[axU (h2 a ha)]
def bsW(H:AM.Heap)(y:UInt8):bT X H 22 1 [(0,.int .u8 (y.toNat:Nat))]=some (.ro 1 (.pb [y]) 0,H):=by
 have:=y.toNat_lt;have h1:(y.toNat:Int)<256:=by omega
 simp[bT,iY,qN,mkRow,jJ,eF,cellsOf,scalars,scalar,aC,ids,aW,tags,bY,h1]
def OuW.app{vo:AV}{l:List UInt8}(y:UInt8)(h:OuW t H oa vo l)(hH:0<H.length)(hne:∀ a,oa=some a->a≠0)(hl:l.length<=10000000):∃ v' H' oa',bG X H 22 vo (.ro 1 (.pb [y]) 0)=some (v',H')/\OuW t H' oa' v' (l++[y])/\Kpw H H' 0 oa oa'/\H'[0]?=H[0]?/\(∀ a,oa'=some a->a≠0):=by
 cases oa with
 | none=>
  obtain⟨rfl,τ,hτ,rfl⟩:=h;have hat:(H++[some (⟨.pb [y],0,none,0,true,false,0⟩:AM.Obj)])[H.length]?=some (some ⟨.pb [y],0,none,0,true,false,0⟩):=by simp
  refine⟨.sl H.length 0 1 0,H++[some ⟨.pb [y],0,none,0,true,false,0⟩],some H.length,?_,⟨0,0,_,.inl rfl,rfl,hat,⟨rfl,rfl,rfl,rfl,rfl⟩⟩,⟨by simp,fun a h=>(by cases h),fun a _ h=>(by cases h;exact axO _),fun j hj _ _=>axL hj⟩,axL hH,fun a h=>by cases h;omega⟩;simp only[bG,lM,nO,vN];simp[gJ,jq,ah,kH,dQ,l9,dh,aS]
 | some a=>
  obtain⟨g,τ,ob,hτ,rfl,ho,hw⟩:=h;obtain⟨ob',w1,w2⟩:=Aj (C:=X) (T:=22) (e:=5) (src:=.ro 1 (.pb [y]) 0) (m:=[y]) lM Ai nO bytes5 vN ho hw (.inl (by simp[gJ,jq,kH])) (by simp;omega);refine⟨_,_,some a,w2,⟨g+1,τ,ob',hτ,by simp,setAt ho,w1⟩,⟨by simp[AM.upd],fun a' h=>h,fun a' h=>(by cases h),fun j hj h0 hja=>by unfold AM.upd;rw[axU (ax6 (hja a rfl))]⟩,by unfold AM.upd;rw[axU (hne a rfl)],hne⟩
def jK(s:Ws):Prop:=s.o.length=(s.k+7)/8
def ET{x:Int}(h:jK s):jK (qM s x):=by
 unfold jK qM at *;rw[az6];simp only;split
 .rw [axR,azp];omega
 .omega
def afM{m:Nat}{x:Int}{E:AM.Heap}(h:WrV t E 0 oa s)(hl:s.k<=10000000):∃ code,Try.f76.body.bind (ay [0,0])=some code/\Run X (evT X) 76 m code [(0,.ptr 0 0 0 0),(1,.int .i64 x)] E ⟨.normal,[(0,.ptr 0 0 0 0),(1,.int .i64 x),(9,.bool (decide (s.k%8=0)))],E⟩:=by
 refine⟨_,rfl,?_⟩;obtain⟨⟨vo,τ,a1,h0,ho⟩,hne⟩:=id h;simp only[jH]at h0;have w3:((s.k:Nat):Int).tmod 8=((s.k%8:Nat):Int):=by rw[ay9 (by omega)];omega
 have w3':((s.k:Nat):Int)%8=((s.k%8:Nat):Int):=by omega
 have w5:IntKind.i64.wrap ((s.k%8:Nat):Int)=((s.k%8:Nat):Int):=wrap_i64 (by omega) (by omega);by_cases hz:s.k%8=0
 .rw [decide_eq_true hz];rw[hz]at w3 w3' w5;apply Pe;simp[-getElem?_pos,go_sem,h0,w3,w3',w5]
 .have hzI:¬ ((s.k%8:Nat):Int)=0:=by omega
  have hzb:(((s.k%8:Nat):Int)==0)=false:=by simpa using hzI
  rw[decide_eq_false hz];generalize s.k % 8=kr at *;apply Pe;simp[-getElem?_pos,go_sem,h0,w3,w3',w5,hz,hzI,hzb]
def afN{m:Nat}{x:Int}{d:Bool}{E:AM.Heap}(h:WrV t E 0 oa s)(hl:s.o.length<=10000000):∃ E' oa',WrV t E' 0 oa' ⟨s.k,s.o++[0]⟩/\Kpw E E' 0 oa oa'/\∃ code,Try.f76.body.bind (ay [0,1,0])=some code/\Run X (evT X) 76 m code [(0,.ptr 0 0 0 0),(1,.int .i64 x),(9,.bool d)] E ⟨.normal,[(0,.ptr 0 0 0 0),(1,.int .i64 x)],E'⟩:=by
 obtain⟨⟨vo,τ,a1,h0,ho⟩,hne⟩:=id h;obtain⟨v',E',oa',hA,hv',hk,hE0,hne'⟩:=ho.app 0 h.lt.1 hne hl;have h0':E'[0]?=some (some (jH s vo τ)):=by rw[hE0];exact h0
 have hbs:=bsW E 0;refine⟨AM.upd E' 0 (some (jH ⟨s.k,s.o++[0]⟩ v' τ)),oa',WrV.set hne' a1 (eX h0') hv',hk.trans (Kpw.upd _),_,rfl,?_⟩;simp only[jH]at h0 h0' ⊢;simp only[show((0:UInt8).toNat:Int)=0 from rfl]at hbs;cases oa' with
 | none=>exact absurd hv'.1 (by simp)
 | some a=>
  obtain⟨g,τ2,ob,_,rfl,_⟩:=hv';generalize (s.o++[0]).length=N at *;apply Pe;simp[-getElem?_pos,go_sem,h0,h0',hbs,hA]
def afO{m:Nat}{E:AM.Heap}(h:WrV t E 0 oa s)(hl:s.k<=10000000):∃ E',WrV t E' 0 oa ⟨s.k+1,s.o⟩/\Kpw E E' 0 oa oa/\∃ code,Try.f76.body.bind (ay [1,1])=some code/\Run X (evT X) 76 m code [(0,.ptr 0 0 0 0)] E ⟨.normal,[],E'⟩:=by
 obtain⟨⟨vo,τ,a1,h0,ho⟩,hne⟩:=id h;refine⟨AM.upd E 0 (some (jH ⟨s.k+1,s.o⟩ vo τ)),WrV.set hne a1 (eX h0) ho,Kpw.upd _,_,rfl,?_⟩;have w1:IntKind.i64.wrap ((s.k:Int)+1)=((s.k+1:Nat):Int):=by rw[wrap_i64 (by omega) (by omega)];omega
 simp only[jH]at h0 ⊢;generalize s.k + 1=k1 at *;apply Pe;simp[-getElem?_pos,go_sem,h0,w1]
def Wv{m:Nat}{x:Int}{E:AM.Heap}(h:WrV t E 0 oa s)(hs:jK s)(hl:s.k<=9000000):∃ code,Try.f76.body=some code /\
 aj (jO fun fr E'=>∃ oa',WrV t E' 0 oa' (qM s x)/\Kpw E E' 0 oa oa') X (evT X) 76 m code [(0,.ptr 0 0 0 0),(1,.int .i64 x)] E:=by
 refine⟨_,rfl,?_⟩;have hso:=hs;unfold jK at hso;apply aj.assoc;apply aj.seq (piece (afM h (by omega)) _ rfl)
 -- the byte
 have key:∀ {E1:AM.Heap} {oa1:Option Nat} {tl:AM.Frame},WrV t E1 0 oa1 ⟨s.k,if s.k%8=0 then s.o++[0]else s.o⟩->Kpw E E1 0 oa oa1->∃ code,Try.f76.body.bind (ay [1])=some code/\aj (jO fun fr E'=>∃ oa',WrV t E' 0 oa' (qM s x)/\Kpw E E' 0 oa oa') X (evT X) 76 m code ((0,.ptr 0 0 0 0)::(1,.int .i64 x)::tl) E1:=by
  intro E1 oa1 tl hV hk;refine⟨_,rfl,?_⟩;have hB:s.k/8<(if s.k%8=0 then s.o++[0]else s.o).length:=by
   split
   .rw [axR,azp];omega
   .omega
  have hg:(if s.k%8=0 then s.o++[0]else s.o).getD (s.k/8) 0=(if s.k%8=0 then s.o++[0]else s.o)[s.k/8]:=by rw[axQ,axI hB];rfl
  have hbw:qM s x=⟨s.k+1,(if s.k%8=0 then s.o++[0]else s.o).set (s.k/8) (orB ((if s.k%8=0 then s.o++[0]else s.o)[s.k/8]) x (s.k%8))⟩:=by unfold qM;rw[hg]
  rw[hbw];generalize (if s.k % 8=0 then s.o++[0]else s.o)=B at *;obtain⟨⟨vo,τ,a1,h0,ho⟩,hne⟩:=id hV;cases oa1 with
  | none=>
   have:=ho.1;simp only at this;subst this;simp at hB
  | some a=>
   obtain⟨g,τ2,ob,hτ2,rfl,h3,h4⟩:=ho;obtain⟨ob',w1,hr2⟩:=afL (m:=m) (s:=⟨s.k,B⟩) (x:=x) (tl:=tl) (y:=B[s.k/8]) h0 h3 h4 hB (axI hB) (by simp only;omega);have hV2:WrV t (upd E1 a (some ob')) 0 (some a) ⟨s.k,B.set (s.k/8) (orB (B[s.k/8]) x (s.k%8))⟩ :=
    ⟨⟨_,τ,a1,rV h0 (hne a rfl),g,τ2,ob',hτ2,by simp,setAt h3,w1⟩,hne⟩
   obtain⟨E3,hV3,hk3,hr3⟩:=afO (m:=m) hV2 (by simp only;omega);have hk2:Kpw E (upd E1 a (some ob')) 0 oa (some a):=by
    refine⟨by have:=hk.len;simpa[AM.upd]using this,hk.same,hk.new,?_⟩;intro j hj h1 h2;have hja:j≠a:=by
     intro e;subst e;cases hq:oa with
     | none=>have:=hk.new j hq rfl;omega
     | some z=>have:=hk.same z hq;cases this;exact h2 _ hq rfl
    unfold AM.upd;rw[axU (ax6 hja)];exact hk.rest j hj h1 h2
   refine aj.of (o:=⟨.normal,[],E3⟩) ?_ ⟨.inl rfl,_,hV3,hk2.trans hk3⟩;exact Run.seq (piece hr2 _ rfl) (piece hr3 _ rfl)
 by_cases hz:s.k%8=0
 .obtain ⟨E1,oa1,hV1,hk1,hr1⟩:=afN (m:=m) (x:=x) (d:=decide (s.k%8=0)) h (by omega);apply aj.seq (fr':=[(0,.ptr 0 0 0 0),(1,.int .i64 x)]) (H':=E1)
  .refine Run.cond (d:=true) (by simp[aJ,aB,hz]) ?_;exact piece hr1 _ rfl
  refine piece (key (tl:=[]) ?_ hk1) _ rfl;rw[if_pos hz];exact hV1
 .apply aj.seq (fr':=[(0,.ptr 0 0 0 0),(1,.int .i64 x),(9,.bool (decide (s.k%8=0)))]) (H':=E)
  .exact Run.cond (d:=false) (by simp[aJ,aB,hz]) ⟨0,rfl⟩
  refine piece (key ?_ (Kpw.refl E 0 oa)) _ rfl;rw[if_neg hz];exact h
def Wx{x:Int}(h:WrV t H o oa s)(hs:jK s)(hl:s.k<=9000000):∃ H' oa',evT X 76 [.ptr o 0 0 0,.int .i64 x] H=some (.tup [],H')/\WrV t H' o oa' (qM s x)/\Kpw H H' o oa oa':=by
 obtain⟨code,hc⟩:∃ code,Try.f76.body=some code:=⟨_,rfl⟩;obtain⟨H',oa',s',l,hE,hV,⟨rfl,rfl⟩,h1,h2,h3,h4⟩:=Me (f:=76) (n:=3) (xs:=[.int .i64 x]) (ys:=[.int .i64 x]) (Q:=fun s' l r=>s'=qM s x/\l=[]) Try.func76 hc rfl h (fun π K _=>gG.flat rfl rfl gG.nil) rfl rfl (by simp[dA]) (by
  intro m E hE;obtain⟨nM,hc2,ht⟩:=Wv (m:=m) (x:=x) hE hs hl;rw[hc]at hc2;obtain rfl:=axN hc2;rw[afP];refine ht.mono fun out ho=>⟨ho.1,?_⟩;obtain⟨oa',q1,q2⟩:=ho.2;refine⟨_,oa',[],rfl,rfl,rfl,rfl,q1,fun hn=>?_,rfl,rfl⟩;cases oa with
  | none=>exact absurd rfl hn
  | some a=>exact q2.same 1 rfl)
 exact⟨H',oa',hE,hV,⟨h1,h2,h3,h4⟩⟩
end
def dG(s:Ws)(x:Int):Nat->Ws
 | 0=>s
 | n+1=>qM (dG s x n) (x/2 ^ n)
def tN(s:Ws)(x:Int):Nat->Ws
 | 0=>s
 | n+1=>tN (qM s (x/2 ^ n)) x n
def eU{s:Ws}{x:Int}(h:jK s):∀ n,jK (dG s x n)/\(dG s x n).k=s.k+n
 | 0=>⟨h,rfl⟩
 | n+1=>by
  obtain⟨h1,h2⟩:=eU h n;exact⟨ET h1,by simp only[dG,qM,h2];omega⟩
def FI{x:Int}:∀ (n:Nat) {s:Ws},jK s->jK (tN s x n)/\(tN s x n).k=s.k+n
 | 0,_,h=>⟨h,rfl⟩
 | n+1,s,h=>by
  obtain⟨h1,h2⟩:=FI n (ET (x:=x/2 ^ n) h);have hk:(qM s (x/2 ^ n)).k=s.k+1:=rfl;exact⟨h1,by show(tN (qM s (x/2 ^ n)) x n).k=_;rw[h2,hk];omega⟩
def Wy{x:Int}{i:Nat}(hi:i<=60):x.fdiv (2 ^ min i 64)=x/2 ^ i:=by
 rw[ayG (by omega)];exact ayH _ (Int.le_of_lt (azU (by omega)))
section
variable {t:Nat}{H:AM.Heap}{o:Nat}{oa:Option Nat}{s:Ws}
def yY(x:Int)(n i:Nat):AM.Frame:=[(0,.ptr 0 0 0 0),(1,.int .i64 x),(7,.int .i64 (n:Nat)),(8,.int .i64 (i:Nat))]
def afQ{m n i:Nat}{x:Int}{E:AM.Heap}(h:WrV t E 0 oa s)(hs:jK s)(hl:s.k<=9000000)(hi:i<=60):∃ E' oa',WrV t E' 0 oa' (qM s (x/2 ^ i))/\Kpw E E' 0 oa oa'/\∃ code,Try.f55.body.bind (ay [1,0,0,1,1])=some code/\Run X (evT X) 55 m code (yY x n i++[(9,.bool true)]) E ⟨.normal,yY x n (i+1),E'⟩:=by
 obtain⟨E',oa',g1,g2,g3⟩:=Wx (x:=x/2 ^ i) h hs hl;refine⟨E',oa',g2,g3,_,rfl,?_⟩;have w1:IntKind.i64.wrap ((i:Int)+1)=((i+1:Nat):Int):=by rw[wrap_i64 (by omega) (by omega)];omega
 have hi0:¬ (i:Int)<0:=by omega
 have w2:=Wy (x:=x) hi;apply Run.seq (fr':=yY x n i) (H':=E')
 .apply Run.block
  .apply Run.seq (fr':=[(0,.ptr 0 0 0 0),(1,.int .i64 x),(6,.int .i64 (i:Nat)),(7,.int .i64 (n:Nat)),(8,.int .i64 (i:Nat))]) (H':=E)
   .simp only[yY];apply Pe;simp[-getElem?_pos,go_sem,ak]
   .simp only[yY];apply Pe;simp[-getElem?_pos,go_sem,g1,hi0,w2]
  .simp
 .generalize i + 1=i1 at *;simp only[yY];apply Pe;simp[-getElem?_pos,go_sem,w1]
def MB{m n:Nat}{x:Int}{E:AM.Heap}(h:WrV t E 0 oa s)(hs:jK s)(hl:s.k<=8000000)(hn:n<=60):∃ code,Try.f55.body=some code /\
 aj (jO fun fr E'=>∃ oa',WrV t E' 0 oa' (dG s x n)/\Kpw E E' 0 oa oa') X (evT X) 55 m code [(0,.ptr 0 0 0 0),(1,.int .i64 x),(2,.int .i64 (n:Nat))] E:=by
 refine⟨_,rfl,?_⟩;apply aj.seq (fr':=yY x n 0) (H':=E)
 .simp only[yY];apply Pe;simp[-getElem?_pos,go_sem]
 refine aj.mono (Q:=Goes fun fr E'=>∃ oa',WrV t E' 0 oa' (dG s x n)/\Kpw E E' 0 oa oa') ?_ fun o ho=>⟨.inl ho.1,ho.2⟩;apply aj.block;refine aj.jP (I:=fun q fr E'=>∃ i oa',i<=n/\q=n-i/\fr=yY x n i/\WrV t E' 0 oa' (dG s x i)/\Kpw E E' 0 oa oa') ?_ (k:=n) ⟨0,oa,by omega,rfl,rfl,h,Kpw.refl E 0 oa⟩;rintro q fr E' ⟨i,oa',hi,rfl,rfl,hV,hk⟩;by_cases hin:i=n
 .subst hin;refine aj.of (o:=⟨.exit 0,yY x i i++[(9,.bool false)],E'⟩) ?_ (.inr ⟨by simp,rfl,oa',hV,hk⟩);refine⟨0,?_⟩;simp only[yY];simp[-getElem?_pos,go_sem]
 .have hlt:i<n:=by omega
  have rW:(i:Int)<(n:Int):=by omega
  obtain⟨f1,f2⟩:=eU (x:=x) hs i;obtain⟨E2,oa2,h1,h2,hr⟩:=afQ (m:=m) (n:=n) (i:=i) (x:=x) hV f1 (by omega) (by omega);refine aj.of (o:=⟨.normal,yY x n (i+1),E2⟩) ?_ (.inl ⟨rfl,n-(i+1),by omega,i+1,oa2,by omega,rfl,rfl,h1,hk.trans h2⟩);apply Run.seq (fr':=yY x n i++[(9,.bool true)]) (H':=E')
  .simp only[yY];apply Pe;simp[-getElem?_pos,go_sem,rW,hlt]
  apply Run.seq (fr':=yY x n i++[(9,.bool true)]) (H':=E')
  .exact Run.cond (d:=true) (by simp[yY,aJ,aB]) ⟨0,rfl⟩
  exact piece hr _ rfl
def CG(x:Int)(I:Int):AM.Frame:=[(0,.ptr 0 0 0 0),(1,.int .i64 x),(6,.int .i64 I)]
def PI{m n:Nat}{x:Int}{E:AM.Heap}(h:WrV t E 0 oa s)(hs:jK s)(hl:s.k<=8000000)(hn:n<=60):∃ code,Try.f56.body=some code /\
 aj (jO fun fr E'=>∃ oa',WrV t E' 0 oa' (tN s x n)/\Kpw E E' 0 oa oa') X (evT X) 56 m code [(0,.ptr 0 0 0 0),(1,.int .i64 x),(2,.int .i64 (n:Nat))] E:=by
 refine⟨_,rfl,?_⟩;apply aj.seq (fr':=CG x ((n:Int)-1)) (H':=E)
 .have w1:IntKind.i64.wrap ((n:Int)-1)=(n:Int)-1:=by rw[wrap_i64 (by omega) (by omega)]
  simp only[CG];apply Pe;simp[-getElem?_pos,go_sem,w1,ak]
 refine aj.mono (Q:=Goes fun fr E'=>∃ oa',WrV t E' 0 oa' (tN s x n)/\Kpw E E' 0 oa oa') ?_ fun o ho=>⟨.inl ho.1,ho.2⟩;apply aj.block;refine aj.jP (I:=fun q fr E'=>∃ oa' s',q<=n/\s'.k+q=s.k+n/\jK s'/\fr=CG x ((q:Int)-1)/\WrV t E' 0 oa' s'/\Kpw E E' 0 oa oa'/\tN s' x q=tN s x n) ?_ (k:=n) ⟨oa,s,by omega,rfl,hs,rfl,h,Kpw.refl E 0 oa,rfl⟩;rintro q fr E' ⟨oa',s',hq,hkk,hs',rfl,hV,hk,hc⟩;cases q with
 | zero=>
  refine aj.of (o:=⟨.exit 0,CG x (((0:Nat):Int)-1)++[(10,.bool false)],E'⟩) ?_ (.inr ⟨by simp,rfl,oa',by rw[<- hc];exact hV,hk⟩);have e1:(((0:Nat):Int)-1)=-1:=rfl;rw[e1];refine⟨0,?_⟩;simp only[CG];simp[-getElem?_pos,go_sem]
 | succ q=>
  have e1:(((q+1:Nat):Int)-1)=(q:Nat):=by omega
  rw[e1];obtain⟨E2,oa2,g1,g2,g3⟩:=Wx (x:=x/2 ^ q) hV hs' (by omega);refine aj.of (o:=⟨.normal,CG x ((q:Int)-1),E2⟩) ?_ (.inl ⟨rfl,q,by omega,oa2,qM s' (x/2 ^ q),by omega,by simp only[qM];omega,ET hs',rfl,g2,hk.trans g3,hc⟩);have w1:IntKind.i64.wrap ((q:Int)-1)=(q:Int)-1:=by rw[wrap_i64 (by omega) (by omega)]
  have hq0:¬ (q:Int)<0:=by omega
  have hq1:(0:Int)<=(q:Int):=by omega
  have w2:=Wy (x:=x) (i:=q) (by omega);apply Run.seq (fr':=CG x (q:Nat)++[(10,.bool true)]) (H':=E')
  .apply Run.seq (fr':=CG x (q:Nat)++[(10,.bool true)]) (H':=E')
   .simp only[CG];apply Pe;simp[-getElem?_pos,go_sem,hq1]
   .exact Run.cond (d:=true) (by simp[CG,aJ,aB]) ⟨0,rfl⟩
  apply Run.seq (fr':=CG x (q:Nat)) (H':=E2)
  .apply Run.block
   .simp only[CG];apply Pe;simp[-getElem?_pos,go_sem,g1,hq0,w2]
   .simp
  .simp only[CG];apply Pe;simp[-getElem?_pos,go_sem,w1,ak]
def RJ{f n:Nat}{fn:Func}{code:Code}{xs ys:List AV}{s':Ws}(hF:X.P.funcs[f]?=some fn)(hb:fn.body=some code)(hrw:X.rw f 0=false)(h:WrV t H o oa s)
 (hA:∀ π K,π.map Prod.fst=o::oa.toList->gG X f H π K 1 xs ys)(hi:aC ys=[])(hn:xs.length+2=n)(hng:n<dA)(hr:fn.results.toList=[])
 (run:∀ m E oa1,WrV n E 0 oa1 s->∃ code,fn.body=some code/\aj (jO fun fr E'=>∃ oa',WrV n E' 0 oa' s'/\Kpw E E' 0 oa1 oa') X (evT X) f m code (numbered 0 (coerce X (.ptr 0 0 0 0::ys) (aI X f))) E) :
 ∃ H' oa',evT X f (.ptr o 0 0 0::xs) H=some (.tup [],H')/\WrV t H' o oa' s'/\Kpw H H' o oa oa':=by
 obtain⟨H',oa',s2,l,hE,hV,⟨rfl,rfl⟩,h1,h2,h3,h4⟩:=Me (Q:=fun s2 l r=>s2=s'/\l=[]) hF hb hrw h hA hi hn hng (by
  intro m E hE;obtain⟨nM,hc2,ht⟩:=run m E _ hE;rw[hb]at hc2;obtain rfl:=axN hc2;refine ht.mono fun out ho=>⟨ho.1,?_⟩;obtain⟨oa',q1,q2⟩:=ho.2;refine⟨_,oa',[],by rw[hr];rfl,rfl,rfl,rfl,q1,fun hn=>?_,rfl,rfl⟩;cases oa with
  | none=>exact absurd rfl hn
  | some a=>exact q2.same 1 rfl)
 exact⟨H',oa',hE,hV,⟨h1,h2,h3,h4⟩⟩
def oV{x I:Int}{n:Nat}(hI:I=(n:Nat))(h:WrV t H o oa s)(hs:jK s)(hl:s.k<=8000000)(hn:n<=60):∃ H' oa',evT X 55 [.ptr o 0 0 0,.int .i64 x,.int .i64 I] H=some (.tup [],H')/\WrV t H' o oa' (dG s x n)/\Kpw H H' o oa oa':=by
 subst hI;obtain⟨code,hc⟩:∃ code,Try.f55.body=some code:=⟨_,rfl⟩;exact RJ (n:=4) (xs:=[.int .i64 x,.int .i64 (n:Nat)]) (ys:=[.int .i64 x,.int .i64 (n:Nat)]) Try.func55 hc rfl h (fun π K _=>gG.flat rfl rfl (gG.flat rfl rfl gG.nil)) rfl rfl (by simp[dA]) rfl fun m E oa1 hE=>by
  obtain⟨nM,hc2,ht⟩:=MB (m:=m) (x:=x) hE hs hl hn;rw[afR];exact⟨nM,hc2,ht⟩
def Am{x I:Int}{n:Nat}(hI:I=(n:Nat))(h:WrV t H o oa s)(hs:jK s)(hl:s.k<=8000000)(hn:n<=60):∃ H' oa',evT X 56 [.ptr o 0 0 0,.int .i64 x,.int .i64 I] H=some (.tup [],H')/\WrV t H' o oa' (tN s x n)/\Kpw H H' o oa oa':=by
 subst hI;obtain⟨code,hc⟩:∃ code,Try.f56.body=some code:=⟨_,rfl⟩;exact RJ (n:=4) (xs:=[.int .i64 x,.int .i64 (n:Nat)]) (ys:=[.int .i64 x,.int .i64 (n:Nat)]) Try.func56 hc rfl h (fun π K _=>gG.flat rfl rfl (gG.flat rfl rfl gG.nil)) rfl rfl (by simp[dA]) rfl fun m E oa1 hE=>by
  obtain⟨nM,hc2,ht⟩:=PI (m:=m) (x:=x) hE hs hl hn;rw[afS];exact⟨nM,hc2,ht⟩
end
def fE(b:List UInt8)(i k:Nat):Nat->Nat->Nat
 | 0,n=>n
 | f+1,n=>if n<258/\k+n<b.length/\b[i+n]?=b[k+n]? then fE b i k f (n+1)else n
section
variable {c:Nat}{b:List UInt8}
def CJ(c:Nat)(b:List UInt8)(i k n:Nat):AM.Frame:=[(0,.ro c (.pb b) 1),(1,.int .i64 (i:Nat)),(2,.int .i64 (k:Nat)),(7,.int .i64 (n:Nat))]
def afT{m i k n:Nat}{E:AM.Heap}(hi:i<k)(hn:n<=258)(hb:b.length<=100000)(hk:k<=100000):∃ code,Try.f60.body.bind (ay [1,1,0,0,0,0,0])=some code/\Run X (evT X) 60 m code (CJ c b i k n) E ⟨.normal,CJ c b i k n++[(32,.bool (decide (n<258/\k+n<b.length/\b[i+n]?=b[k+n]?)))],E⟩:=by
 refine⟨_,rfl,?_⟩;simp only[CJ];by_cases h1:n<258
 .have h1I:(n:Int)<258:=by omega
  have w1:IntKind.i64.wrap ((k:Int)+(n:Int))=((k+n:Nat):Int):=by rw[wrap_i64 (by omega) (by omega)];omega
  have w2:IntKind.i64.wrap ((i:Int)+(n:Int))=((i+n:Nat):Int):=by rw[wrap_i64 (by omega) (by omega)];omega
  by_cases h2:k+n<b.length
  .have h2I:((k+n:Nat):Int)<(b.length:Int):=by omega
   have h3I:((i+n:Nat):Int)<(b.length:Int):=by omega
   have h3:i+n<b.length:=by omega
   obtain⟨x,hx⟩:∃ x,b[i+n]?=some x:=⟨_,axI h3⟩;obtain⟨y,hy⟩:∃ y,b[k+n]?=some y:=⟨_,axI h2⟩;rw[hx,hy];by_cases hxy:x=y
   .subst hxy;rw[show decide (n<258/\k+n<b.length/\some x=some x)=true by simp[h1,h2]];generalize k + n=kn at *;generalize i + n=n2 at *;apply Pe;simp[-getElem?_pos,go_sem,h1,h1I,w1,w2,h2,h2I,h3,h3I,hx,hy]
   .rw [show decide (n<258/\k+n<b.length/\some x=some y)=false by simp[hxy]];have hxI:¬ (x.toNat:Int)=(y.toNat:Int):=fun h=>hxy (UInt8.toNat_inj.1 (by omega));have hxN:¬ x.toNat=y.toNat:=fun h=>hxy (UInt8.toNat_inj.1 h);generalize k + n=kn at *;generalize i + n=n2 at *;apply Pe;simp[-getElem?_pos,go_sem,h1,h1I,w1,w2,h2,h2I,h3,h3I,hx,hy,hxI,hxN]
  .have h2I:¬ ((k+n:Nat):Int)<(b.length:Int):=by omega
   rw[show decide (n<258/\k+n<b.length/\b[i+n]?=b[k+n]?)=false by simp[h2]];generalize k + n=kn at *;apply Pe;simp[-getElem?_pos,go_sem,h1,h1I,w1,w2,h2,h2I]
 .have h1I:¬ (n:Int)<258:=by omega
  rw[show decide (n<258/\k+n<b.length/\b[i+n]?=b[k+n]?)=false by simp[h1]];apply Pe;simp[-getElem?_pos,go_sem,h1,h1I]
def PK{i k n:Nat}(h:n<258/\k+n<b.length/\b[i+n]?=b[k+n]?):fE b i k (258-n) n=fE b i k (258-(n+1)) (n+1):=by
 obtain⟨f,hf⟩:∃ f,258-n=f+1:=⟨258-(n+1),by omega⟩;rw[hf,fE,if_pos h,show 258-(n+1)=f by omega]
def Us{i k n:Nat}(h:¬ (n<258/\k+n<b.length/\b[i+n]?=b[k+n]?)):∀ f,fE b i k f n=n
 | 0=>rfl
 | f+1=>by rw[fE,if_neg h]
def Ut{m i k:Nat}{E:AM.Heap}(hi:i<k)(hb:b.length<=100000)(hk:k<=100000):∃ code,Try.f60.body=some code /\
 Run X (evT X) 60 m code [(0,.ro c (.pb b) 1),(1,.int .i64 (i:Nat)),(2,.int .i64 (k:Nat))] E ⟨.ret,[(6,.int .i64 (fE b i k 258 0:Nat))],E⟩:=by
 refine⟨_,rfl,?_⟩
 suffices hT:aj (fun o=>o=⟨.ret,[(6,.int .i64 (fE b i k 258 0:Nat))],E⟩) X (evT X) 60 m _ [(0,.ro c (.pb b) 1),(1,.int .i64 (i:Nat)),(2,.int .i64 (k:Nat))] E by
  obtain⟨o,rfl,hr⟩:=hT;exact hr
 apply aj.seq (fr':=[(0,.ro c (.pb b) 1),(1,.int .i64 (i:Nat)),(2,.int .i64 (k:Nat))]) (H':=E)
 .apply Pe;simp[-getElem?_pos,go_sem]
 apply aj.seq (fr':=CJ c b i k 0) (H':=E)
 .simp only[CJ];apply Pe;simp[-getElem?_pos,go_sem,ak]
 apply aj.andThen (P:=fun fr H=>fr=CJ c b i k (fE b i k 258 0)++[(32,.bool false)]/\H=E)
 .apply aj.block;refine aj.loop (σ:=Nat) (fun n=>n<=258/\fE b i k (258-n) n=fE b i k 258 0) (fun n=>CJ c b i k n) (fun _=>E) (fun n=>258-n) ?_ 0 ⟨by omega,rfl⟩;rintro n ⟨hn,he⟩;have h2:=afT (m:=m) (c:=c) (E:=E) hi hn hb hk;by_cases hc:n<258/\k+n<b.length/\b[i+n]?=b[k+n]?
  .left
   refine⟨n+1,⟨by omega,by rw[<- PK hc];exact he⟩,?_,by omega⟩;rw[decide_eq_true hc]at h2;apply Run.seq (fr':=CJ c b i k n++[(32,.bool true)]) (H':=E)
   .apply Run.seq (piece h2 _ rfl);refine Run.cond (d:=true) (by simp[CJ,aJ,aB]) ⟨0,rfl⟩
   .apply Run.block
    .have w1:IntKind.i64.wrap ((n:Int)+1)=((n+1:Nat):Int):=by rw[wrap_i64 (by omega) (by omega)];omega
     simp only[CJ];apply Pe;simp[-getElem?_pos,go_sem,w1,ak]
    .simp
  .right
   rw[decide_eq_false hc]at h2;refine⟨⟨.exit 0,CJ c b i k n++[(32,.bool false)],E⟩,⟨rfl,by rw[<- he,Us hc],rfl⟩,by simp,?_⟩;refine Run.bK ?_ (by simp);apply Run.seq (piece h2 _ rfl);refine Run.cond (d:=false) (by simp[CJ,aJ,aB]) ⟨0,rfl⟩
 rintro fr H ⟨rfl,rfl⟩;generalize fE b i k 258 0=n at *;refine aj.of (o:=⟨.ret,[(6,.int .i64 (n:Nat))],H⟩) ?_ rfl;refine⟨0,?_⟩;simp only[CJ];simp[-getElem?_pos,go_sem,ak]
def aao{H:AM.Heap}{a:AV}{i k:Nat}(ha:fJ H a=some (.pb b))(hi:i<k)(hb:b.length<=100000)(hk:k<=100000):evT X 60 [a,.int .i64 (i:Nat),.int .i64 (k:Nat)] H=some (.int .i64 (fE b i k 258 0:Nat),H):=by
 have h3:=dX (C:=X) (f:=60) (i:=2) (a:=.int .i64 (k:Nat)) (H:=H) rfl rfl (dR 3);have h2:=dX (C:=X) (f:=60) (i:=1) (a:=.int .i64 (i:Nat)) (H:=H) rfl rfl h3;obtain⟨c,x,hx⟩:=iy (C:=X) (f:=60) (i:=0) rfl ha h2;obtain⟨code,hc,hr⟩:=Ut (m:=0) (c:=c) (b:=b) (E:=[]) hi hb hk;refine dI (Ev1.rU (l:=[.int .i64 (fE b i k 258 0:Nat)]) (bC X) Try.func60 hc hx rfl (by simp[dA]) rfl rfl rfl ?_);rw[afU];exact⟨_,⟨rfl,rfl⟩,hr⟩
end
abbrev Pls:=List (List UInt8×List Nat)
def bxN(v:AV)(τ:Nat):AM.Obj:=⟨.pc [v],0,some 1,1,false,true,τ⟩
def pmO(l:List AV)(τ:Nat):AM.Obj:=⟨.pm l,0,none,1,false,true,τ⟩
def iH(l:List Nat):AV:=.pi .i64 (l.map Int.ofNat)
def ntE:List (Nat×Nat)->Pls->List AV
 | x::ex,y::M=>.pc [.agg (.pb y.1),.sl x.1 0 y.2.length x.2]::ntE ex M
 | _,_=>[]
def pid(d n:Nat):List (Nat×Nat):=(List.range n).map fun k=>(d+k,0)
def J5{d n k:Nat}(h:k<n):(pid d n)[k]?=some (d+k,0):=by
 unfold pid;rw[axP,ayJ h];rfl
def tV(d n:Nat):(pid d n).length=n:=by simp[pid]
def Ap(d n:Nat):pid d (n+1)=(d,0)::pid (d+1) n:=by
 refine ayL fun k=>?_;cases k with
 | zero=>rw[J5 (by omega)];rfl
 | succ k=>
  rw[axX];by_cases h:k<n
  .rw [J5 (by omega),J5 h,show d+(k+1)=d+1+k by omega]
  .rw [ax0 (by rw[tV];omega),ax0 (by rw[tV];omega)]
def yA:∀ {ex:List (Nat×Nat)} {M:Pls},ex.length=M.length->(ntE ex M).length=M.length
 | [],[],_=>rfl
 | x::ex,y::M,h=>by simp[ntE,yA (ex:=ex) (M:=M) (by simpa using h)]
 | [],_::_,h=>by simp at h
 | _::_,[],h=>by simp at h
def WA:∀ {ex:List (Nat×Nat)} {M:Pls} {j:Nat} {x:Nat×Nat} {y:List UInt8×List Nat},ex[j]?=some x->M[j]?=some y->(ntE ex M)[j]?=some (.pc [.agg (.pb y.1),.sl x.1 0 y.2.length x.2])
 | [],_,_,_,_,h,_=>by simp at h
 | _::_,[],_,_,_,_,h=>by simp at h
 | a::ex,c::M,0,x,y,h,h2=>by
  simp at h h2;subst h h2;rfl
 | a::ex,c::M,j+1,x,y,h,h2=>by
  simp only[ntE,axX];exact WA (by simpa using h) (by simpa using h2)
def RN:∀ {ex:List (Nat×Nat)} {M:Pls} {j:Nat} {x:Nat×Nat} {y:List UInt8×List Nat},ex.length=M.length->(ntE ex M).set j (.pc [.agg (.pb y.1),.sl x.1 0 y.2.length x.2])=ntE (ex.set j x) (M.set j y)
 | [],[],_,_,_,_=>rfl
 | _::_,[],_,_,_,h=>by simp at h
 | [],_::_,_,_,_,h=>by simp at h
 | a::ex,c::M,0,x,y,h=>rfl
 | a::ex,c::M,j+1,x,y,h=>by
  simp only[ntE,List.set_cons_succ];rw[RN (by simpa using h)]
def RQ:∀ {ex:List (Nat×Nat)} {M:Pls} {x:Nat×Nat} {y:List UInt8×List Nat},ex.length=M.length->ntE ex M++[.pc [.agg (.pb y.1),.sl x.1 0 y.2.length x.2]]=ntE (ex++[x]) (M++[y])
 | [],[],_,_,_=>rfl
 | _::_,[],_,_,h=>by simp at h
 | [],_::_,_,_,h=>by simp at h
 | a::ex,c::M,x,y,h=>by
  simp only[ntE,ayj];rw[RQ (by simpa using h)]
def Aq:∀ {ex:List (Nat×Nat)} {M:Pls},ex.length=M.length->aC (ntE ex M)=ex.map Prod.fst
 | [],[],_=>rfl
 | _::_,[],h=>by simp at h
 | [],_::_,h=>by simp at h
 | a::ex,c::M,h=>by
  have:=Aq (ex:=ex) (M:=M) (by simpa using h);simp[ntE,aC,ids,this]
def MC:∀ {ex:List (Nat×Nat)} {M:Pls},aW (ntE ex M)=[]
 | [],_=>by simp[ntE,aW]
 | _::_,[]=>rfl
 | a::ex,c::M=>by
  have:=MC (ex:=ex) (M:=M);simp[ntE,aW,tags,this]
def J6{π:List (Nat×Nat)}{τ:Nat->Nat}:∀ {ex:List (Nat×Nat)} {M:Pls} {d:Nat},ex.length=M.length->(∀ k,k<M.length->π[d+k]?=ex[k]?)->bU (gQ π) τ (ntE (pid d M.length) M)=ntE ex M
 | [],[],_,_,_=>rfl
 | _::_,[],_,h,_=>by simp at h
 | [],_::_,_,h,_=>by simp at h
 | a::ex,c::M,d,h,hk=>by
  rw[axY,Ap];simp only[ntE,bU,ren];have h0:=hk 0 (by simp);simp at h0;have hr:gQ π d 0=some a:=by unfold gQ;rw[h0]
  rw[hr];simp only;rw[J6 (ex:=ex) (M:=M) (d:=d+1) (by simpa using h) (fun k hk2=>by
   have:=hk (k+1) (by rw[axY];omega);rw[show d+1+k=d+(k+1)by omega,this,axX])]
def WB{x p:AV}(h:ren idN tz x=.agg p):∃ q,x=.agg q/\ren idN tz q=p:=by
 cases x<;>simp only[ren,idN,reduceCtorEq,AV.agg.injEq]at h;exact⟨_,rfl,h⟩
def RS:∀ {ex:List (Nat×Nat)} {M:Pls} {l:List AV},bU idN tz l=ntE ex M->l=ntE ex M
 | [],M,l,h=>by simp only[ntE]at h ⊢;exact qg h
 | _::_,[],l,h=>by simp only[ntE]at h ⊢;exact qg h
 | a::ex,c::M,l,h=>by
  simp only[ntE]at h;obtain⟨x,l',rfl,h1,h2⟩:=fM h;obtain⟨l1,rfl,h3⟩:=wV h1;obtain⟨y1,l2,rfl,h4,h5⟩:=fM h3;obtain⟨y2,l3,rfl,h6,h7⟩:=fM h5;obtain rfl:=qg h7;obtain⟨q,rfl,h8⟩:=WB h4;obtain rfl:=J3 h8;obtain rfl:=CB h6;rw[RS h2];rfl
def WC{ex:List (Nat×Nat)}{M:Pls}:bU idN tz (ntE ex M)=ntE ex M:=by
 induction ex generalizing M with
 | nil=>simp[ntE,bU]
 | cons a ex ih=>
  cases M with
  | nil=>rfl
  | cons c M=>simp[ntE,bU,ren,idN,ih]
def ntS(c:Nat)(b:List UInt8)(M:Pls):List AM.Obj:=[bxN (.ro c (.pb b) 0) 0,bxN (.map 2 0) 0,pmO (ntE (pid 3 M.length) M) 0]++(M.map fun y=>iH y.2).map rwF
structure NtV (c:Nat) (b:List UInt8) (t:Nat) (H:AM.Heap) (o1 o4 om:Nat) (ex:List (Nat×Nat)) (M:Pls):Prop where
 bx:∃ τ1 τ,(τ1=0\/τ1=t)/\(τ=0\/τ=t)/\H[o1]?=some (some (bxN (.ro c (.pb b) τ1) τ))
 mb:∃ τ,(τ=0\/τ=t)/\H[o4]?=some (some (bxN (.map om 0) τ))
 mp:∃ τ,(τ=0\/τ=t)/\H[om]?=some (some (pmO (ntE ex M) τ))
 rows:eG t H ex (M.map fun y=>iH y.2)
 nd:(o1::o4::om::ex.map Prod.fst).Nodup
section
variable {c:Nat}{b:List UInt8}{t:Nat}{H:AM.Heap}{o1 o4 om:Nat}{ex:List (Nat×Nat)}{M:Pls}{π:List (Nat×Nat)}
def NtV.len(h:NtV c b t H o1 o4 om ex M):ex.length=M.length:=by have:=h.rows.len;simpa using this
def IZ:∀ p∈M.map (fun y=>iH y.2),ids p=[]/\tags p=[]:=by
 intro p hp;obtain⟨y,_,rfl⟩:=ayd.1 hp;exact⟨rfl,rfl⟩
def acK{π0:List (Nat×Nat)}:∀ {ex:List (Nat×Nat)} {ps:List AV},eG t H ex ps->(∀ p∈ps,ids p=[]/\tags p=[])->J7 t H π0 ex (ps.map rwF)
 | [],[],_,_=>trivial
 | x::r,p::ps,h,hf=>by
  obtain⟨⟨τ,ob,h1,h2,h3⟩,h4⟩:=h;obtain⟨f1,f2⟩:=hf p (ays ..);exact⟨⟨ob,h2,Like.WE h3 f1 f2 h1⟩,acK h4 fun q hq=>hf q (aya _ hq)⟩
 | [],_::_,h,_=>h.elim
 | _::_,[],h,_=>h.elim
def NtV.img(h:NtV c b t H o1 o4 om ex M):Img t H ((o1,0)::(o4,0)::(om,0)::ex) (ntS c b M):=by
 refine Img.ofL ?_ (by simpa using h.nd);obtain⟨τ1,τ,a1,a2,h1⟩:=h.bx;obtain⟨τ2,b2,h2⟩:=h.mb;obtain⟨τ3,b3,h3⟩:=h.mp;refine⟨⟨_,h1,Like.WG ?_ a2 ?_⟩,⟨_,h2,Like.WG ?_ b2 ?_⟩,⟨_,h3,Like.WG ?_ b3 ?_⟩,acK h.rows IZ⟩
 .simp [ren,bU];rfl
 .intro k hk;simp[tags,aW]at hk;rw[hk];exact a1
 .simp [ren,bU,idN,gQ]
 .intro k hk;simp[tags,aW]at hk
 .simp only[ren];rw[WC,J6 (d:=3) h.len (fun k hk=>by
   rw[show 3+k=k+1+1+1 by omega,axX,axX,axX])]
 .intro k hk;simp[tags,MC]at hk
def NtV.nP(h:Img t H π (ntS c b M)):∃ o1 o4 om ex,π=(o1,0)::(o4,0)::(om,0)::ex/\NtV c b t H o1 o4 om ex M:=by
 obtain⟨o1,g1,ob1,p1,q1,r1⟩:=h.ob 0 _ rfl;obtain⟨o4,g4,ob4,p4,q4,r4⟩:=h.ob 1 _ rfl;obtain⟨om,gm,obm,pm,qm,rm⟩:=h.ob 2 _ rfl;have hR:=Img.rows (S:=[bxN (.ro c (.pb b) 0) 0,bxN (.map 2 0) 0,pmO (ntE (pid 3 M.length) M) 0]) h IZ;have hnd:=h.nodup;obtain⟨rfl,pp,τ,rfl,hτ,hp,ht⟩:=Like.box r1;obtain⟨rfl,pp2,τ2,rfl,hτ2,hp2,ht2⟩:=Like.box r4;obtain⟨rfl,pp3,τ3,rfl,hτ3,hp3,ht3⟩:=Like.box rm;have hπ:π=(o1,0)::(o4,0)::(om,0)::π.drop 3:=by
  match π,p1,p4,pm with
  | a::b::c::r,p1,p4,pm=>
   simp at p1 p4 pm;subst p1 p4 pm;rfl
  | [],p1,_,_=>simp at p1
  | [_],_,p4,_=>simp at p4
  | [_,_],_,_,pm=>simp at pm
 simp only[axY,ax3]at hR;generalize hex:π.drop 3=ex at *;subst hπ;have hl:=hR.len;refine⟨o1,o4,om,ex,rfl,?_,?_,?_,hR,by simpa using hnd⟩
 .simp only[ren,bU]at hp;obtain⟨l1,rfl,k1⟩:=wV hp;obtain⟨x,l2,rfl,e1,k2⟩:=fM k1;obtain rfl:=qg k2;obtain⟨τ1,rfl⟩:=wW e1;exact⟨τ1,τ,ht τ1 (by simp[tags,aW]),hτ,q1⟩
 .simp only[ren,bU,gQ]at hp2;obtain⟨l1,rfl,k1⟩:=wV hp2;obtain⟨x,l2,rfl,e1,k2⟩:=fM k1;obtain rfl:=qg k2;simp only[axX,ayf]at e1;obtain rfl:=aap e1;exact⟨τ2,hτ2,q4⟩
 .simp only[ren]at hp3;rw[J6 (ex:=ex) (d:=3) (by simpa using hl) (fun k hk=>by
   rw[show 3+k=k+1+1+1 by omega,axX,axX,axX])]at hp3
  obtain⟨l1,rfl,k1⟩:=adp hp3;rw[RS k1]at qm;exact⟨τ3,hτ3,qm⟩
end
def zC(k:List UInt8):Pls->Nat->Option Nat
 | [],_=>none
 | y::M,j=>if y.1=k then some j else zC k M (j+1)
def ntM(M:Pls)(k:List UInt8)(i:Nat):Pls:=match zC k M 0 with
 | some j=>M.set j (k,(M.getD j ([],[])).2++[i])
 | none=>M++[(k,[i])]
def qE(b:List UInt8)(i:Nat):List UInt8:=(b.drop i).take 3
def ntB(b:List UInt8)(M:Pls)(i:Nat):Pls:=if i+3<=b.length then ntM M (qE b i) i else M
def Ar:∀ {M:Pls} {k:List UInt8} {j0 j:Nat},zC k M j0=some j->j0<=j/\∃ l,M[j-j0]?=some (k,l)
 | [],_,_,_,h=>by cases h
 | y::M,k,j0,j,h=>by
  unfold zC at h;split at h
  .rename_i hk;cases h;subst hk;exact⟨axO _,y.2,by simp⟩
  .obtain ⟨h1,l,h2⟩:=Ar h;refine⟨by omega,l,?_⟩;rw[show j-j0=(j-(j0+1))+1 by omega,axX];exact h2
def oW:∀ {ex:List (Nat×Nat)} {M:Pls} {k:List UInt8} {j0 j:Nat},ex.length=M.length->(∀ y∈M,y.1.length=k.length)->zC k M j0=some j->∃ x l,ex[j-j0]?=some x/\M[j-j0]?=some (k,l)/\qO (.agg (.pb k)) (ntE ex M) j0=some (some (j,.sl x.1 0 l.length x.2))
 | _,[],_,_,_,_,_,h=>by cases h
 | [],_::_,_,_,_,hl,_,_=>by simp at hl
 | x::ex,y::M,k,j0,j,hl,hk,h=>by
  have hy:=hk y (ays ..);unfold zC at h;simp only[ntE,qO,oM];rw[if_pos (by rw[hy])];split at h
  .rename_i he;cases h;subst he;exact⟨x,y.2,by simp,by simp,by simp⟩
  .rename_i he;obtain⟨x2,l,h1,h2,h3⟩:=oW (ex:=ex) (M:=M) (by simpa using hl) (fun z hz=>hk z (aya _ hz)) h;have hj:=(Ar h).1;refine⟨x2,l,by rw[show j-j0=(j-(j0+1))+1 by omega,axX];exact h1,by rw[show j-j0=(j-(j0+1))+1 by omega,axX];exact h2,?_⟩;have hb:(k==y.1)=false:=by simpa using fun e=>he e.symm
   rw[hb];exact h3
def mV:∀ {ex:List (Nat×Nat)} {M:Pls} {k:List UInt8} {j0:Nat},ex.length=M.length->(∀ y∈M,y.1.length=k.length)->zC k M j0=none->qO (.agg (.pb k)) (ntE ex M) j0=some none
 | [],[],_,_,_,_,_=>rfl
 | _::_,[],_,_,hl,_,_=>by simp at hl
 | [],_::_,_,_,hl,_,_=>by simp at hl
 | x::ex,y::M,k,j0,hl,hk,h=>by
  have hy:=hk y (ays ..);unfold zC at h;split at h
  .cases h
  .rename_i he;simp only[ntE,qO,oM];rw[if_pos (by rw[hy])];have hb:(k==y.1)=false:=by simpa using fun e=>he e.symm
   rw[hb];exact mV (by simpa using hl) (fun z hz=>hk z (aya _ hz)) h
def key_eq{b:List UInt8}{i:Nat}{x y z:UInt8}(hx:b[i]?=some x)(hy:b[i+1]?=some y)(hz:b[i+2]?=some z):qE b i=[x,y,z]:=by
 unfold qE;have h2:i+2<b.length:=(axK.1 hz).1;rw[ayz (by omega),ayz (by omega),ayz (by omega)];rw[axI (by omega)]at hx hy hz;simp only[List.take_succ_cons,List.take_zero];rw[axN hx,axN hy,axN hz]
def keO(k:List UInt8):AM.Obj:=⟨.pb k,0,some 3,1,false,false,0⟩
section
variable {c:Nat}{b:List UInt8}{t:Nat}{H:AM.Heap}{o1 o4 om:Nat}{ex:List (Nat×Nat)}{M:Pls}
def afV{m i:Nat}{E:AM.Heap}(h:NtV c b t E 0 1 2 ex M)(hi:i<=100000)(hb:b.length<=100000):∃ code,Try.f59.body.bind (ay [0])=some code/\Run X (evT X) 59 m code [(0,.int .i64 (i:Nat)),(1,.ptr 0 0 0 0),(2,.ptr 1 0 0 0)] E ⟨.normal,[(0,.int .i64 (i:Nat)),(1,.ptr 0 0 0 0),(2,.ptr 1 0 0 0),(9,.bool (decide (i+3<=b.length)))],E⟩:=by
 refine⟨_,rfl,?_⟩;obtain⟨τ1,τ,_,_,h1⟩:=h.bx;simp only[bxN]at h1;have w1:IntKind.i64.wrap ((i:Int)+3)=((i+3:Nat):Int):=by rw[wrap_i64 (by omega) (by omega)];omega
 by_cases hl:i+3<=b.length
 .have hlI:((i+3:Nat):Int)<=(b.length:Int):=by omega
  rw[decide_eq_true hl];generalize i + 3=i3 at *;apply Pe;simp[-getElem?_pos,go_sem,h1,w1,hl,hlI]
 .have hlI:¬ ((i+3:Nat):Int)<=(b.length:Int):=by omega
  rw[decide_eq_false hl];generalize i + 3=i3 at *;apply Pe;simp[-getElem?_pos,go_sem,h1,w1,hl,hlI]
def WH(x y z:UInt8):lH X 95 [(0,.int .u8 (x.toNat:Nat)),(1,.int .u8 (y.toNat:Nat)),(2,.int .u8 (z.toNat:Nat))]=some (.agg (.pb [x,y,z])):=by
 have hx:=x.toNat_lt;have hy:=y.toNat_lt;have hz:=z.toNat_lt;have h:∀ u v w:Int,lH X 95 [(0,.int .u8 u),(1,.int .u8 v),(2,.int .u8 w)]=((jJ [.int .u8 u,.int .u8 v,.int .u8 w]).map .pb).map .agg:=by intro u v w;kernel_rfl
 rw[h];have a1:(x.toNat:Int)<256:=by omega
 have a2:(y.toNat:Int)<256:=by omega
 have a3:(z.toNat:Int)<256:=by omega
 simp[jJ,a1,a2,a3]
def afW{m i:Nat}{E:AM.Heap}(h:NtV c b t E 0 1 2 ex M)(hi:i+3<=b.length)(hb:b.length<=100000):∃ code,Try.f59.body.bind (ay [1,0,0])=some code/\Run X (evT X) 59 m code [(0,.int .i64 (i:Nat)),(1,.ptr 0 0 0 0),(2,.ptr 1 0 0 0),(9,.bool true)] E ⟨.normal,[(0,.int .i64 (i:Nat)),(2,.ptr 1 0 0 0),(4,.ptr E.length 0 0 0)],E++[some (keO (qE b i))]⟩:=by
 refine⟨_,rfl,?_⟩;obtain⟨τ1,τ,_,_,h1⟩:=h.bx;simp only[bxN]at h1;have hE:=eX h1;have hE2:¬ E.length=0:=by omega
 have h1':(E++[some (keO [0,0,0])])[0]?=E[0]?:=axL hE;obtain⟨x,hx⟩:∃ x,b[i]?=some x:=⟨_,axI (by omega)⟩;obtain⟨y,hy⟩:∃ x,b[i+1]?=some x:=⟨_,axI (by omega)⟩;obtain⟨z,hz⟩:∃ x,b[i+2]?=some x:=⟨_,axI (by omega)⟩;rw[key_eq hx hy hz];have w1:IntKind.i64.wrap ((i:Int)+1)=((i+1:Nat):Int):=by rw[wrap_i64 (by omega) (by omega)];omega
 have w2:IntKind.i64.wrap ((i:Int)+2)=((i+2:Nat):Int):=by rw[wrap_i64 (by omega) (by omega)];omega
 have l0:i<b.length:=by omega
 have l1:i+1<b.length:=by omega
 have l2:i+2<b.length:=by omega
 have l0I:(i:Int)<(b.length:Int):=by omega
 have l1I:((i+1:Nat):Int)<(b.length:Int):=by omega
 have l2I:((i+2:Nat):Int)<(b.length:Int):=by omega
 simp only[keO];generalize i + 1=i1 at *;generalize i + 2=i2 at *;apply Run.dy (by simp) WI (by simp)
 ·(conv=>lhs;simp[-getElem?_pos,go_sem,jX,out1,dw,nS,jY,pushes,kK,iP,touched,mentioned,jr,gK,dM,nT,Op.operands,ids,aC,aH,dY,dS,iC,lN,h1,hx,hy,hz,w1,w2,l0,l1,l2,l0I,l1I,l2I,WH,CO,yB,kL])
 .refine kM (ps:=[(0,1),(0,4),(1,4),(2,4),(3,4),(0,5),(1,5),(2,5),(3,5),(4,5),(0,6),(1,6),(2,6),(3,6),(4,6),(0,7),(1,7),(2,7),(3,7),(0,8),(1,8),(2,8),(3,8),(0,9),(1,9),(2,9),(3,9),(4,9),(5,9),(6,9),(7,9),(8,9),(0,10),(1,10),(2,10),(3,10),(4,10),(5,10),(6,10),(7,10),(8,10),(9,10),(0,11),(1,11),(2,11),(3,11),(4,11),(5,11),(6,11),(7,11),(8,11),(9,11),(0,12),(1,12),(2,12),(3,12),(4,12),(5,12),(6,12),(7,12),(8,12),(0,13),(1,13),(2,13),(3,13),(4,13),(5,13),(6,13),(7,13),(8,13),(0,15),(1,15),(2,15),(3,15),(4,15),(5,15),(6,15),(7,15),(8,15),(9,15),(10,15),(11,15),(12,15),(13,15),(14,15)]) (by kernel_rfl) ?_;simp[y7,bear,disjoint,oZ,Call.operands,aJ,aB,aC,ids,kL,hE,hE2]
 .rfl
end
end Go.Proofs.Ytbodincpjijdiaa
