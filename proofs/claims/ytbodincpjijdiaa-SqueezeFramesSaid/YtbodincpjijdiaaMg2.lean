/- IA to WM: texts of this claim, one behind the other; what each shows stands at its head. -/
import Derived.Test.YtbodincpjijdiaaAm4
import Derived.Test.YtbodincpjijdiaaMg1
set_option linter.defProp false
set_option linter.unusedSimpArgs false
set_option linter.unusedVariables false
set_option maxRecDepth 100000
set_option maxHeartbeats 8000000
namespace Go.Proofs.Ytbodincpjijdiaa
open Go.AM
inductive Res (α:Type) where
 | ok (a:α) (k:Nat) (o:List UInt8)
 | err (e:Int)
abbrev PM(α:Type):=Nat->List UInt8->Res α
def o9{α:Type}(a:α):PM α:=fun k o=>.ok a k o
def uy{α:Type}(e:Int):PM α:=fun _ _=>.err e
def fC{α β:Type}(m:PM α)(f:α->PM β):PM β:=fun k o=>match m k o with
 | .ok a k' o'=>f a k' o'
 | .err e=>.err e
def wX(b:List UInt8):PM Int:=fun k o=>if k<8*b.length then .ok (iU b k) (k+1) o else .err 4
def qZ(mo:Int)(c:UInt8):PM Unit:=fun k o=>if(o.length:Int)<mo then .ok () k (o++[c])else .err 3
def aaq:PM Unit:=fun k o=>.ok () ((k+7)/8*8) o
def iw(b:List UInt8):Nat->PM Int
 | 0=>o9 0
 | n+1=>fC (iw b n) fun x=>fC (wX b) fun y=>o9 (x+2 ^ n*y)
def tH(m:PM Unit):Nat->PM Unit
 | 0=>o9 ()
 | n+1=>fC m fun _=>tH m n
def decP(b:List UInt8)(l codes:List Int):Nat->Nat->Int->PM Nat
 | 0,_,_=>uy 5
 | k+1,i,x=>fC (wX b) fun y=>match jR i (2*x+y) l codes 0 with
  | some j=>o9 j
  | none=>decP b l codes k (i+1) (2*x+y)
def wL(b:List UInt8)(l:List Int):PM Nat:=if(iQ l).2=0 then decP b l (iI l) (mxL 0 l).toNat 1 0 else uy (iQ l).2
def CP(b:List UInt8)(mo:Int):PM Unit:=fC aaq fun _=>fC (iw b 16) fun n=>fC (iw b 16) fun m=>
 if n+m=65535 then tH (fC (iw b 8) fun c=>qZ mo (UInt8.ofNat c.toNat)) n.toNat else uy 5
def PL:List (Int×Nat):=[(3,0),(4,0),(5,0),(6,0),(7,0),(8,0),(9,0),(10,0),(11,1),(13,1),(15,1),(17,1),(19,2),(23,2),(27,2),(31,2),(35,3),(43,3),(51,3),(59,3),(67,4),(83,4),(99,4),(115,4),(131,5),(163,5),(195,5),(227,5),(258,0)]
def CQ(s:Nat):Int:=(PL.getD (s-257) (0,0)).1
def EC(s:Nat):Nat:=(PL.getD (s-257) (0,0)).2
def nG(d:Nat):Nat:=if d<4 then 0 else d/2-1
def uT(d:Nat):Nat:=if d<4 then 1+d else 1+(2+d%2)*2 ^ (d/2-1)
def zD(mo:Int)(d:Nat):PM Unit:=fun k o=>qZ mo (o.getD (o.length-d) 0) k o
def PN(mo:Int)(d n:Nat):PM Unit:=fun k o=>if d>o.length then .err 5 else tH (zD mo d) n k o
def ED(b:List UInt8)(mo:Int)(dl:List Int)(s:Nat):PM Unit :=
 if 286<=s then uy 5 else fC (iw b (EC s)) fun x=>fC (wL b dl) fun d=>
  if 30<=d then uy 5 else fC (iw b (nG d)) fun y=>PN mo (uT d+y.toNat) (CQ s+x).toNat
def uz(b:List UInt8)(mo:Int)(ll dl:List Int):Nat->PM Unit
 | 0=>uy 99
 | f+1=>fC (wL b ll) fun s=>if s=256 then o9 ()else if s<256 then fC (qZ mo (UInt8.ofNat s)) fun _=>uz b mo ll dl f
  else fC (ED b mo dl s) fun _=>uz b mo ll dl f
def am5:List Nat:=[16,17,18,0,8,7,9,6,10,5,11,4,12,3,13,2,14,1,15]
def hcP(b:List UInt8):List Nat->List Int->PM (List Int)
 | [],c=>o9 c
 | i::r,c=>fC (iw b 3) fun x=>hcP b r (c.set i x)
def WJ(n:Nat)(acc:List Int)(x:Int)(t:Nat):PM (List Int):=if n<acc.length+t then uy 5 else o9 (acc++List.replicate t x)
def adq(b:List UInt8)(n:Nat)(acc:List Int)(s:Nat):PM (List Int) :=
 if s=16 then(if acc=[]then uy 5 else fC (iw b 2) fun t=>WJ n acc (acc.getLastD 0) (3+t.toNat))
 else if s=17 then fC (iw b 3) fun t=>WJ n acc 0 (3+t.toNat)
 else if s=18 then fC (iw b 7) fun t=>WJ n acc 0 (11+t.toNat)
 else o9 (acc++[(s:Int)])
def WL(b:List UInt8)(cl:List Int)(n:Nat):Nat->List Int->PM (List Int)
 | 0,_=>uy 99
 | f+1,acc=>if n<=acc.length then o9 acc else fC (wL b cl) fun s=>fC (adq b n acc s) fun a2=>WL b cl n f a2
def afX(l:List Int):Bool:=(l.filter (0<·))==[1]
def am6(l:List Int):Bool:=(l.filter (0<·))==[]
def afY(l:List Int):Bool:=(iQ l).2==0&&(l.getD 256 0 != 0&&((iQ l).1||afX l))
def afZ(l:List Int):Bool:=(iQ l).2==0&&((iQ l).1||(afX l||am6 l))
def adr(b:List UInt8)(F:Nat):PM (List Int×List Int):=fC (iw b 5) fun nl=>fC (iw b 5) fun nd=>fC (iw b 4) fun nc=>
 if 286<257+nl\/30<1+nd then uy 5 else fC (hcP b (am5.take (4+nc).toNat) (List.replicate 19 0)) fun cl=>
  if iQ cl=(true,0)then fC (WL b cl ((257+nl)+(1+nd)).toNat F []) fun a=>
   if(afY (a.take (257+nl).toNat)&&afZ (a.drop (257+nl).toNat))=true then o9 (a.take (257+nl).toNat,a.drop (257+nl).toNat)else uy 5
  else uy 5
def Au:List Int:=List.replicate 144 8++List.replicate 112 9++List.replicate 24 7++List.replicate 8 8
def zF:List Int:=List.replicate 32 5
structure Blk where
 kind:Int
 last:Bool
 k:Nat
 n:Nat
def CS(b:List UInt8)(mo:Int)(F:Nat)(t:Int):PM Unit :=
 if t=0 then CP b mo else if t=1 then uz b mo Au zF F else if t=2 then fC (adr b F) fun c=>uz b mo c.1 c.2 F else uy 5
def CU(b:List UInt8)(mo:Int)(F:Nat):PM Blk:=fun k o=>fC (iw b 1) (fun l=>fC (iw b 2) fun t=>fC (CS b mo F t) fun _=>fun k' o'=>.ok ⟨t,l==1,k,o'.length-o.length⟩ k' o') k o
def ru(b:List UInt8)(mo:Int)(F:Nat):Nat->PM (List Blk)
 | 0=>uy 99
 | f+1=>fC (CU b mo F) fun x=>if x.last=true then o9 [x]else fC (ru b mo F f) fun r=>o9 (x::r)
def wM(F:Nat)(b:List UInt8)(mo:Int):List UInt8×Int×Int :=
 if mo<0 then([],0,2)else match ru b mo F F 0 []with
 | .ok _ k o=>(o,((k+7)/8:Nat),0)
 | .err e=>([],0,e)
structure Is where
 k:Nat
 o:List UInt8
 e:Int
def fU(c:Nat)(b:List UInt8)(mo:Int)(s:Is)(vo:AV)(τ1 τ:Nat):AM.Obj:=⟨.pc [.ro c (.pb b) τ1,.int .i64 (s.k:Nat),vo,.int .i64 mo,.int .i64 s.e],0,some 5,1,false,true,τ⟩
def OuV(t:Nat)(H:AM.Heap)(oa:Option Nat)(vo:AV)(l:List UInt8):Prop:=match oa with
 | none=>l=[]/\∃ τ,(τ=0\/τ=t)/\vo=.ro 0 .pn τ
 | some a=>∃ g τ ob,(τ=0\/τ=t)/\vo=.sl a 0 l.length g/\H[a]?=some (some ob)/\RwT (.pb l) g τ ob
structure IrV (c:Nat) (b:List UInt8) (mo:Int) (t:Nat) (H:AM.Heap) (o:Nat) (oa:Option Nat) (s:Is):Prop where
 bx:∃ vo τ1 τ,(τ1=0\/τ1=t)/\(τ=0\/τ=t)/\H[o]?=some (some (fU c b mo s vo τ1 τ))/\OuV t H oa vo s.o
 ne:∀ a,oa=some a->a≠o
def irS(c:Nat)(b:List UInt8)(mo:Int)(s:Is):Bool->List AM.Obj
 | false=>[fU c b mo s (.ro 0 .pn 0) 0 0]
 | true=>[fU c b mo s (.sl 1 0 s.o.length 0) 0 0,⟨.pb s.o,0,none,0,true,false,0⟩]
section
variable {c:Nat}{b:List UInt8}{mo:Int}{t:Nat}{H:AM.Heap}{o:Nat}{oa:Option Nat}{s:Is}
def Ci(c:Nat)(b:List UInt8)(mo:Int)(s:Is)(r:Bool):OkS (irS c b mo s r):=by
 intro k ob0 hk x hx;cases r
 .cases k with
  | zero=>
   obtain rfl:=axN hk;simp[fU,ids,aC]at hx
  | succ k=>simp[irS]at hk
 .match k,hk with
  | 0,hk=>
   obtain rfl:=axN hk;simp[fU,ids,aC]at hx;subst hx;simp[irS]
  | 1,hk=>
   obtain rfl:=axN hk;simp[ids]at hx
  | k+2,hk=>simp[irS]at hk
def gW(c:Nat)(b:List UInt8)(mo:Int)(s:Is)(r:Bool):(irS c b mo s r).length=if r then 2 else 1:=by cases r<;>rfl
def Cj(c:Nat)(b:List UInt8)(mo:Int)(s:Is)(r:Bool):reach ((irS c b mo s r).map some) aA [0] []=List.range (irS c b mo s r).length:=by
 cases r
 .exact kV rfl (by simp[fU,ids,aC])
 .show reach _ (99996+1+1+1+1) [0] []=[0,1];simp[irS,fU,reach,ids,aC]
def IrV.img(h:IrV c b mo t H o oa s):∃ π,Img t H π (irS c b mo s oa.isSome)/\π.map Prod.fst=o::oa.toList/\π[0]?=some (o,0):=by
 obtain⟨⟨vo,τ1,τ,hτ1,hτ,h0,ho⟩,hne⟩:=h;cases oa with
 | none=>
  obtain⟨hl,τ2,hτ2,rfl⟩:=ho;refine⟨[(o,0)],⟨rfl,?_,?_⟩,rfl,rfl⟩
  .intro j k oj gj ok gk h1 h2 _;have:=eX h1;have:=eX h2;simp at *;omega
  .intro k ob0 hk;cases k with
   | succ k=>simp[irS]at hk
   | zero=>
    obtain rfl:=axN hk;refine⟨o,0,_,rfl,h0,⟨?_,rfl,rfl,rfl,fun _=>⟨rfl,rfl,rfl⟩,hτ,?_⟩⟩
    .simp [fU,ren,bU,tz]
    .intro k hk;simp[fU,tags,aW]at hk;rcases hk with rfl|rfl
     .exact hτ1
     .exact hτ2
 | some a=>
  obtain⟨g,τ2,ob,hτ2,rfl,ha,hw⟩:=ho;have hao:=hne a rfl;refine⟨[(o,0),(a,g)],⟨rfl,?_,?_⟩,rfl,rfl⟩
  .intro j k oj gj ok gk h1 h2 e
   match j,k,h1,h2 with
   | 0,0,_,_=>rfl
   | 1,1,_,_=>rfl
   | 0,1,h1,h2=>simp at h1 h2;omega
   | 1,0,h1,h2=>simp at h1 h2;omega
   | j+2,_,h1,_=>simp at h1
   | 0,k+2,_,h2=>simp at h2
   | 1,k+2,_,h2=>simp at h2
  .intro k ob0 hk
   match k,hk with
   | 0,hk=>
    obtain rfl:=axN hk;refine⟨o,0,_,rfl,h0,⟨?_,rfl,rfl,rfl,fun _=>⟨rfl,rfl,rfl⟩,hτ,?_⟩⟩
    .simp [fU,ren,bU,tz,gQ,idN]
    .intro k hk;simp[fU,tags,aW]at hk;rw[hk];exact hτ1
   | 1,hk=>
    obtain rfl:=axN hk;refine⟨a,g,ob,rfl,ha,⟨by rw[hw.p];rfl,hw.g,hw.row,hw.ids,(fun h=>by cases h),by rw[hw.tg];exact hτ2,?_⟩⟩;intro k hk;rw[hw.p]at hk;simp[tags]at hk
   | k+2,hk=>simp[irS]at hk
def IrV.nP{π:List (Nat×Nat)}{r:Bool}(h:Img t H π (irS c b mo s r))(h0:π[0]?=some (o,0))(hr:r=false->s.o=[]):∃ oa,IrV c b mo t H o oa s/\π.map Prod.fst=o::oa.toList/\oa.isSome=r/\(∀ a,oa=some a->∃ g,π[1]?=some (a,g)):=by
 obtain⟨o',g',ob,q1,q2,q3⟩:=h.ob 0 _ (by cases r<;>rfl:(irS c b mo s r)[0]?=some (fU c b mo s (if r then .sl 1 0 s.o.length 0 else .ro 0 .pn 0) 0 0));rw[h0]at q1;simp only[axH,axJ]at q1;obtain⟨rfl,rfl⟩:=q1;obtain⟨b1,b2,_⟩:=q3.bx rfl;obtain⟨p,g,cap,z,row,idb,tg⟩:=ob;have r2:=q3.gen;have r3:=q3.row;have r4:=q3.ids;have r5:=q3.tg;have r6:=q3.tp;have r1:=q3.p;simp only[fU]at r1 r2 r3 r4 r5 r6 b1 b2;subst r2 r3 r4 b1 b2;simp only[ren,bU]at r1;obtain⟨l1,rfl,k1⟩:=wV r1;obtain⟨x1,l2,rfl,e1,k2⟩:=fM k1;obtain⟨x2,l3,rfl,e2,k3⟩:=fM k2;obtain⟨x3,l4,rfl,e3,k4⟩:=fM k3;obtain⟨x4,l5,rfl,e4,k5⟩:=fM k4;obtain⟨x5,l6,rfl,e5,k6⟩:=fM k5;obtain rfl:=qg k6;obtain⟨τ1,rfl⟩:=wW e1;obtain rfl:=nR e2;obtain rfl:=nR e4;obtain rfl:=nR e5;have hτ1:τ1=0\/τ1=t:=r6 τ1 (by simp[tags,aW]);cases r with
 | false=>
  simp only[axZ,if_false,ren]at e3;obtain⟨τ2,rfl⟩:=wW e3;have hτ2:τ2=0\/τ2=t:=r6 τ2 (by simp[tags,aW]);have hl:=h.len;refine⟨none,⟨⟨_,τ1,tg,hτ1,r5,q2,hr rfl,τ2,hτ2,rfl⟩,fun a h=>by cases h⟩,?_,rfl,fun a h=>by cases h⟩
  match π,hl,h0 with
  | [x],_,h0=>simp at h0;subst h0;rfl
 | true=>
  obtain⟨a,g,ob,p1,p2,p3⟩:=h.ob 1 _ rfl;simp only[if_true,ren,gQ,p1]at e3;obtain rfl:=CB e3;have hl:=h.len;have hne:a≠o:=fun e=>by have:=h.nd 1 0 a g o 0 p1 h0 e;omega
  have ep:=p3.p;simp only[ren]at ep;refine⟨some a,⟨⟨_,τ1,tg,hτ1,r5,q2,g,ob.tg,ob,p3.tg,rfl,p2,J3 ep,p3.gen,p3.row,p3.ids,rfl⟩,fun a' h=>by cases h;exact hne⟩,?_,rfl,fun a' h=>by cases h;exact⟨g,p1⟩⟩
  match π,hl,h0,p1 with
  | [x,y],_,h0,p1=>simp at h0 p1;subst h0 p1;rfl
def RU{f n:Nat}{fn:Func}{code:Code}{xs ys:List AV}{Q:Is->List AV->Bool->Prop}(hF:X.P.funcs[f]?=some fn)(hb:fn.body=some code)(hrw:X.rw f 0=false)(h:IrV c b mo t H o oa s)
 (hA:∀ π K,π.map Prod.fst=o::oa.toList->gG X f H π K 1 xs ys)(hi:aC ys=[])(hn:xs.length+2=n)(hng:n<dA)
 (run:∀ m E,IrV c b mo n E 0 (oa.map fun _=>1) s->aj (jO fun fr E'=>∃ s' oa' l,aT X fr E' fn.results.toList=some l/\aC l=[]/\aW l=[]/\dB l=true/\IrV c b mo n E' 0 oa' s'/\(oa≠none->oa'=some 1)/\Q s' l oa'.isSome)
  X (evT X) f m code (numbered 0 (coerce X (.ptr 0 0 0 0::ys) (aI X f))) E) :
 ∃ H' oa' s' l,evT X f (.ptr o 0 0 0::xs) H=some (aG l,H')/\IrV c b mo t H' o oa' s'/\Q s' l oa'.isSome/\H.length<=H'.length/\(∀ a,oa=some a->oa'=some a)/\(∀ a,oa=none->oa'=some a->H.length<=a) /\
  (∀ j,j<H.length->j≠o->(∀ a,oa=some a->j≠a)->H'[j]?=H[j]?):=by
 obtain⟨π,hI,hπ,hπ0⟩:=h.img;have hK:0<(irS c b mo s oa.isSome).length:=by rw[gW];split<;>omega
 have hA':=(hA π (irS c b mo s oa.isSome).length hπ);have hA2:gG X f H π (irS c b mo s oa.isSome).length 0 (.ptr o 0 0 0::xs) (.ptr 0 0 0 0::ys):=gG.ptr hI hrw hπ0 hK hA';have hoa:oa.isSome=false->s.o=[]:=by
  intro h1;cases oa with
  | some a=>cases h1
  | none=>obtain⟨⟨vo,τ1,τ,_,_,_,ho⟩,_⟩:=h;exact ho.1
 obtain⟨π'',S',v0,H',τf,hE,hτf,hI',hok',hid,⟨s',l,r',hS',hv0,hr',hQ,hil⟩,hlen,hfix,hnew,hrest⟩:=Ev1.img (C:=X) (T:=evT X) (f:=f) (H:=H) (n:=n) (ys:=.ptr 0 0 0 0::ys) (Q:=fun S' v0=>∃ s' l r',S'=irS c b mo s' r'/\v0=aG l/\(r'=false->s'.o=[])/\Q s' l r'/\aC l=[]/\aW l=[]/\dB l=true/\(oa.isSome=true->r'=true)) (bC X) hF hb hI (Ci c b mo s _) hA2
  (by rw[show aC (AV.ptr 0 0 0 0::ys)=[0]by simp[aC,ids,hi]];exact Cj c b mo s _) (by simp;omega) hng (by
   intro E hEl hEI;obtain⟨oa1,hV,hπ1,hs1,FC⟩:=IrV.nP hEI (by rw[qL,if_pos hK]) hoa;have PG:oa1=oa.map fun _=>1:=by
    cases oa with
    | none=>cases oa1 with
     | none=>rfl
     | some a=>cases hs1
    | some a=>cases oa1 with
     | none=>cases hs1
     | some a1=>
      obtain⟨g,hg⟩:=FC a1 rfl;rw[qL]at hg;simp[gW]at hg;rw[axM,<- hg.1]
   rw[PG]at hV;obtain⟨out,hout,hrun⟩:=run (irS c b mo s oa.isSome).length E hV;refine⟨out,⟨hout.1,?_⟩,hrun⟩;obtain⟨s',oa',l,hr,hil,htl,hnt,hV',ho',hQ⟩:=hout.2;obtain⟨π',hI',hπ',FD⟩:=hV'.img;have Wq:oa'.isSome=false->s'.o=[]:=by
    intro h1;cases oa' with
    | some a=>cases h1
    | none=>obtain⟨⟨vo,τ1,τ,_,_,_,ho⟩,_⟩:=hV';exact ho.1
   refine Leaves.plain hr hil htl hnt hI' (Ci c b mo s' _) ?_ ?_ ?_ ?_ ⟨s',l,_,rfl,rfl,Wq,hQ,hil,htl,hnt,?_⟩
   .rw [gW,gW];cases oa with
    | none=>cases oa'.isSome<;>simp
    | some a=>rw[ho' (by simp)];simp
   .intro k hk;cases oa with
    | none=>
     rw[gW]at hk;simp at hk;subst hk;exact⟨0,FD⟩
    | some a=>
     rw[gW]at hk;simp at hk;have:k=0\/k=1:=by omega
     rcases this with rfl|rfl
     .exact ⟨0,FD⟩
     .rw [ho' (by simp)]at hπ';have h1:(π'.map Prod.fst)[1]?=some 1:=by rw[hπ'];rfl
      rw[axP]at h1;cases hp:π'[1]? with
      | none=>rw[hp]at h1;cases h1
      | some x=>
       rw[hp]at h1;simp at h1;exact⟨x.2,by rw[<- h1]⟩
   .intro k ob ob' h1 h2;cases hx:oa.isSome<;>cases hy:oa'.isSome<;>rw[hx]at h1<;>rw[hy]at h2
    all_goals
     match k,h1,h2 with
     | 0,h1,h2=>
      have e1:=axN h1;have e2:=axN h2;subst e1 e2;rfl
     | 1,h1,h2=>first|(simp[irS]at h1;done)|(simp[irS]at h2;done)|(
      have e1:=axN h1;have e2:=axN h2;subst e1 e2;rfl)
     | k+2,h1,h2=>simp[irS]at h1
   .intro k hk1 hk2;cases hx:oa.isSome<;>cases hy:oa'.isSome<;>rw[hx,gW]at hk1<;>rw[hy,gW]at hk2<;>simp at hk1 hk2
    all_goals first|omega|skip
    have:k=1:=by omega
    subst this;rw[show List.range (irS c b mo s false).length=[0] from rfl,Cj];rw[gW];simp
   .intro h1;cases oa with
    | none=>cases h1
    | some a=>rw[ho' (by simp)];rfl)
 subst hS' hv0;obtain⟨g0,hg0⟩:=hfix 0 o 0 hπ0;have PD:g0=0:=by obtain⟨o',g',ob,q1,q2,q3⟩:=hI'.ob 0 _ (by cases r'<;>rfl:(irS c b mo s' r')[0]?=some (fU c b mo s' (if r' then .sl 1 0 s'.o.length 0 else .ro 0 .pn 0) 0 0));rw[hg0]at q1;simp only[axH,axJ]at q1;obtain⟨_,rfl⟩:=q1;exact(q3.bx rfl).2.2
 subst PD;obtain⟨oa',hV',Md,hs',hat'⟩:=IrV.nP hI' hg0 hr';obtain⟨hil,htl,hnt,hmono⟩:=hil;rw[gX (aG l) (by rw[iK hnt];exact hil) (fun k hk=>by rw[gV hnt,htl]at hk;cases hk)]at hE;refine⟨H',oa',s',l,dI hE,hV',by rw[hs'];exact hQ,hlen,?_,?_,?_⟩
 .intro a ha;subst ha;cases oa' with
  | none=>
   have:=hmono rfl;rw[this]at hs';cases hs'
  | some a'=>
   obtain⟨g,hg⟩:=hat' a' rfl;have h1:(π.map Prod.fst)[1]?=some a:=by rw[hπ];rfl
   rw[axP]at h1;cases hp:π[1]? with
   | none=>rw[hp]at h1;cases h1
   | some x=>
    rw[hp]at h1;simp at h1;obtain⟨g2,hg2⟩:=hfix 1 x.1 x.2 hp;rw[hg]at hg2;simp at hg2;rw[hg2.1,h1]
 .intro a ha ha';subst ha ha';obtain⟨g,hg⟩:=hat' a rfl;exact hnew 1 a g (by rw[gW];simp) hg
 .intro j hj hjo hja;refine hrest j hj ?_;intro k x g hk e;have h1:x∈π.map Prod.fst:=ayd.2 ⟨(x,g),axT hk,rfl⟩;rw[hπ]at h1;rcases ax2.1 h1 with h1|h1
  .exact hjo (e.trans h1)
  .cases oa with
   | none=>simp at h1
   | some a=>
    simp at h1;exact hja a rfl (e.trans h1)
end
structure Loc {α:Type} (m:List UInt8->Int->PM α):Prop where
 up:∀ b mo k o a k' o',m b mo k o=.ok a k' o'->k<=8*b.length->k<=k'/\k'<=8*b.length/\(∃ x,o'=o++x)/\((o.length:Int)<=mo->(o'.length:Int)<=mo)
 same:∀ b b2 mo mo2 k o a k' o',m b mo k o=.ok a k' o'->k<=8*b.length->(∀ i,i<k'->iU b2 i=iU b i)->k'<=8*b2.length->(o'.length:Int)<=mo2->m b2 mo2 k o=.ok a k' o'
 cut:∀ b b2 mo k o a k' o',m b mo k o=.ok a k' o'->k<=8*b.length->(∀ i,i<8*b2.length->iU b2 i=iU b i)->k<=8*b2.length->8*b2.length<k'->(o.length:Int)<=mo->m b2 mo k o=.err 4
 few:∀ b mo mo2 k o a k' o',m b mo k o=.ok a k' o'->k<=8*b.length->(o.length:Int)<=mo2->mo2<o'.length->m b mo2 k o=.err 3
def jC{α:Type}{a a':α}{k k':Nat}{o o':List UInt8}(h:Res.ok a k o=.ok a' k' o'):a=a'/\k=k'/\o=o':=by
 cases h;exact⟨rfl,rfl,rfl⟩
def kW{α β:Type}{m:PM α}{f:α->PM β}{k k':Nat}{o o':List UInt8}{b:β}(h:fC m f k o=.ok b k' o'):∃ a k1 o1,m k o=.ok a k1 o1/\f a k1 o1=.ok b k' o':=by
 unfold fC at h;cases hm:m k o with
 | ok a k1 o1=>rw[hm]at h;exact⟨a,k1,o1,rfl,h⟩
 | err e=>rw[hm]at h;cases h
def eP{α β:Type}{m:PM α}{f:α->PM β}{k k1:Nat}{o o1:List UInt8}{a:α}(h:m k o=.ok a k1 o1):fC m f k o=f a k1 o1:=by
 unfold fC;rw[h]
def FK{α β:Type}{m:PM α}{f:α->PM β}{k:Nat}{o:List UInt8}{e:Int}(h:m k o=.err e):fC m f k o=.err e:=by
 unfold fC;rw[h]
def Loc.ret{α:Type}(a:α):Loc (fun _ _=>o9 a) where
 up:=by intro b mo k o a' k' o' h hk;obtain⟨_,rfl,rfl⟩:=jC h;exact⟨axO _,hk,⟨[],by simp⟩,fun h=>h⟩
 same:=fun b b2 mo mo2 k o a k' o' h _ _ _ _=>h
 cut:=by intro b b2 mo k o a' k' o' h hk _ h2 h3;obtain⟨_,rfl,rfl⟩:=jC h;omega
 few:=by intro b mo mo2 k o a' k' o' h hk h2 h3;obtain⟨_,rfl,rfl⟩:=jC h;omega
def Loc.bad{α:Type}(e:Int):Loc (α:=α) (fun _ _=>uy e) where
 up:=by intro b mo k o a' k' o' h;cases h
 same:=by intro b b2 mo mo2 k o a' k' o' h;cases h
 cut:=by intro b b2 mo k o a' k' o' h;cases h
 few:=by intro b mo mo2 k o a' k' o' h;cases h
def Loc.bnd{α β:Type}{m:List UInt8->Int->PM α}{f:α->List UInt8->Int->PM β}(hm:Loc m)(hf:∀ a,Loc (f a)):Loc (fun b mo=>fC (m b mo) fun a=>f a b mo) where
 up:=by intro b mo k o a' k' o' h hk;obtain⟨a,k1,o1,h1,h2⟩:=kW h;obtain⟨e1,e2,⟨x,rfl⟩,e4⟩:=hm.up _ _ _ _ _ _ _ h1 hk;obtain⟨f1,f2,⟨y,rfl⟩,f4⟩:=(hf a).up _ _ _ _ _ _ _ h2 e2;exact⟨by omega,f2,⟨x++y,by simp⟩,fun h=>f4 (e4 h)⟩
 same:=by intro b b2 mo mo2 k o a' k' o' h hk hb hl ho;obtain⟨a,k1,o1,h1,h2⟩:=kW h;obtain⟨e1,e2,⟨x,rfl⟩,e4⟩:=hm.up _ _ _ _ _ _ _ h1 hk;obtain⟨f1,f2,⟨y,rfl⟩,f4⟩:=(hf a).up _ _ _ _ _ _ _ h2 e2;have e5:=hm.same b b2 mo mo2 k o a k1 _ h1 hk (fun i hi=>hb i (by omega)) (by omega) (by simp at ho ⊢;omega);rw[eP e5];exact(hf a).same b b2 mo mo2 _ _ _ _ _ h2 e2 hb hl ho
 cut:=by
  intro b b2 mo k o a' k' o' h hk hb hl hc hm0;obtain⟨a,k1,o1,h1,h2⟩:=kW h;obtain⟨e1,e2,⟨x,rfl⟩,e4⟩:=hm.up _ _ _ _ _ _ _ h1 hk;by_cases h3:8*b2.length<k1
  .rw [FK (hm.cut b b2 mo k o a k1 _ h1 hk hb hl h3 hm0)]
  .rw [eP (hm.same b b2 mo mo k o a k1 _ h1 hk (fun i hi=>hb i (by omega)) (by omega) (e4 hm0))];exact(hf a).cut b b2 mo _ _ _ _ _ h2 e2 hb (by omega) hc (e4 hm0)
 few:=by
  intro b mo mo2 k o a' k' o' h hk h2 h3;obtain⟨a,k1,o1,h1,h4⟩:=kW h;obtain⟨e1,e2,⟨x,rfl⟩,e4⟩:=hm.up _ _ _ _ _ _ _ h1 hk;by_cases h5:mo2<((o++x).length:Int)
  .rw [FK (hm.few b mo mo2 k o a k1 _ h1 hk h2 h5)]
  .rw [eP (hm.same b b mo mo2 k o a k1 _ h1 hk (fun _ _=>rfl) e2 (by omega))];exact(hf a).few b mo mo2 _ _ _ _ _ h4 e2 (by omega) h3
def Loc.look{α:Type}{f:Nat->List UInt8->List UInt8->Int->PM α}(h:∀ k o,Loc (f k o)):Loc (fun b mo k o=>f k o b mo k o) where
 up:=fun b mo k o a k' o' h1 hk=>(h k o).up _ _ _ _ _ _ _ h1 hk
 same:=fun b b2 mo mo2 k o a k' o' h1 hk hb hl ho=>(h k o).same _ _ _ _ _ _ _ _ _ h1 hk hb hl ho
 cut:=fun b b2 mo k o a k' o' h1 hk hb hl hc hm=>(h k o).cut _ _ _ _ _ _ _ _ h1 hk hb hl hc hm
 few:=fun b mo mo2 k o a k' o' h1 hk h2 h3=>(h k o).few _ _ _ _ _ _ _ _ h1 hk h2 h3
def Loc.ite{α:Type}{c:Prop}[Decidable c]{m m2:List UInt8->Int->PM α}(h:Loc m)(h2:Loc m2):Loc (fun b mo=>if c then m b mo else m2 b mo):=by
 by_cases hc:c
 .simpa [hc]using h
 .simpa [hc]using h2
def RX:Loc (fun b _=>wX b) where
 up:=by
  intro b mo k o a k' o' h hk;unfold wX at h;split at h
  .obtain ⟨_,rfl,rfl⟩:=jC h;exact⟨by omega,by omega,⟨[],by simp⟩,fun h=>h⟩
  .cases h
 same:=by
  intro b b2 mo mo2 k o a k' o' h hk hb hl ho;unfold wX at h ⊢;split at h
  .obtain ⟨rfl,rfl,rfl⟩:=jC h;rw[if_pos (by omega),hb k (by omega)]
  .cases h
 cut:=by
  intro b b2 mo k o a k' o' h hk hb hl hc hm;unfold wX at h ⊢;split at h
  .obtain ⟨rfl,rfl,rfl⟩:=jC h;rw[if_neg (by omega)]
  .cases h
 few:=by
  intro b mo mo2 k o a k' o' h hk h2 h3;unfold wX at h;split at h
  .obtain ⟨rfl,rfl,rfl⟩:=jC h;omega
  .cases h
def aar:Loc (fun _ _=>aaq) where
 up:=by intro b mo k o a k' o' h hk;obtain⟨_,rfl,rfl⟩:=jC h;exact⟨by omega,by omega,⟨[],by simp⟩,fun h=>h⟩
 same:=fun b b2 mo mo2 k o a k' o' h _ _ _ _=>h
 cut:=by intro b b2 mo k o a k' o' h hk hb hl hc hm;obtain⟨_,rfl,rfl⟩:=jC h;omega
 few:=by intro b mo mo2 k o a k' o' h hk h2 h3;obtain⟨_,rfl,rfl⟩:=jC h;omega
def EU(c:UInt8):Loc (fun _ mo=>qZ mo c) where
 up:=by
  intro b mo k o a k' o' h hk;unfold qZ at h;split at h
  .obtain ⟨_,rfl,rfl⟩:=jC h;exact⟨by omega,by omega,⟨[c],rfl⟩,fun _=>by simp;omega⟩
  .cases h
 same:=by
  intro b b2 mo mo2 k o a k' o' h hk hb hl ho;unfold qZ at h ⊢;split at h
  .obtain ⟨rfl,rfl,rfl⟩:=jC h;rw[if_pos (by simp at ho;omega)]
  .cases h
 cut:=by
  intro b b2 mo k o a k' o' h hk hb hl hc hm;unfold qZ at h;split at h
  .obtain ⟨rfl,rfl,rfl⟩:=jC h;omega
  .cases h
 few:=by
  intro b mo mo2 k o a k' o' h hk h2 h3;unfold qZ at h ⊢;split at h
  .obtain ⟨rfl,rfl,rfl⟩:=jC h;rw[if_neg (by simp at h3;omega)]
  .cases h
def iR:∀ n,Loc (fun b _=>iw b n)
 | 0=>Loc.ret 0
 | n+1=>Loc.bnd (f:=fun x b _=>fC (wX b) fun y=>o9 (x+2 ^ n*y)) (iR n) fun x=>Loc.bnd (f:=fun y _ _=>o9 (x+2 ^ n*y)) RX fun y=>Loc.ret _
def Loc.rep{m:List UInt8->Int->PM Unit}(h:Loc m):∀ n,Loc (fun b mo=>tH (m b mo) n)
 | 0=>Loc.ret ()
 | n+1=>Loc.bnd (f:=fun _ b mo=>tH (m b mo) n) h fun _=>Loc.rep h n
def RY(l codes:List Int):∀ (k i:Nat) (x:Int),Loc (fun b _=>decP b l codes k i x)
 | 0,_,_=>Loc.bad 5
 | k+1,i,x=>by
  refine Loc.bnd (f:=fun y b _=>match jR i (2*x+y) l codes 0 with
   | some j=>o9 j
   | none=>decP b l codes k (i+1) (2*x+y)) RX fun y=>?_
  cases jR i (2*x+y) l codes 0 with
  | some j=>exact Loc.ret j
  | none=>exact RY l codes k (i+1) (2*x+y)
def EW(l:List Int):Loc (fun b _=>wL b l):=by
 unfold wL;exact Loc.ite (RY l _ _ _ _) (Loc.bad _)
def aas:Loc CP:=by
 unfold CP;refine Loc.bnd (f:=fun _ b mo=>_) aar fun _=>?_;refine Loc.bnd (f:=fun n b mo=>_) (iR 16) fun n=>?_;refine Loc.bnd (f:=fun m b mo=>_) (iR 16) fun m=>?_;refine Loc.ite (Loc.rep (Loc.bnd (f:=fun c b mo=>_) (iR 8) fun c=>EU _) _) (Loc.bad 5)
def RZ(d:Nat):Loc (fun _ mo=>zD mo d):=by
 unfold zD;exact Loc.look (f:=fun k o b mo=>qZ mo (o.getD (o.length-d) 0)) fun k o=>EU _
def aat(d n:Nat):Loc (fun _ mo=>PN mo d n):=by
 unfold PN;refine Loc.look (f:=fun k o b mo=>fun k o2=>if d>o.length then .err 5 else tH (zD mo d) n k o2) fun k o=>?_;by_cases h:d>o.length
 .simp only[h,if_true];exact Loc.bad 5
 .simp only[h,if_false];exact Loc.rep (RZ d) n
def Si(dl:List Int)(s:Nat):Loc (fun b mo=>ED b mo dl s):=by
 unfold ED;refine Loc.ite (Loc.bad 5) ?_;refine Loc.bnd (f:=fun x b mo=>_) (iR _) fun x=>?_;refine Loc.bnd (f:=fun d b mo=>_) (EW dl) fun d=>?_;refine Loc.ite (Loc.bad 5) ?_;exact Loc.bnd (f:=fun y b mo=>_) (iR _) fun y=>aat _ _
def EX(ll dl:List Int):∀ F,Loc (fun b mo=>uz b mo ll dl F)
 | 0=>Loc.bad 99
 | f+1=>by
  unfold uz;refine Loc.bnd (f:=fun s b mo=>_) (EW ll) fun s=>?_;refine Loc.ite (Loc.ret ()) (Loc.ite ?_ ?_)
  .exact Loc.bnd (f:=fun _ b mo=>uz b mo ll dl f) (EU _) fun _=>EX ll dl f
  .exact Loc.bnd (f:=fun _ b mo=>uz b mo ll dl f) (Si dl s) fun _=>EX ll dl f
def WO:∀ (r:List Nat) (c:List Int),Loc (fun b _=>hcP b r c)
 | [],c=>Loc.ret c
 | i::r,c=>Loc.bnd (f:=fun x b _=>hcP b r (c.set i x)) (iR 3) fun x=>WO r _
def J8(n:Nat)(acc:List Int)(x:Int)(t:Nat):Loc (fun _ _=>WJ n acc x t):=by
 unfold WJ;exact Loc.ite (Loc.bad 5) (Loc.ret _)
def aau(n:Nat)(acc:List Int)(s:Nat):Loc (fun b _=>adq b n acc s):=by
 unfold adq;refine Loc.ite (Loc.ite (Loc.bad 5) ?_) (Loc.ite ?_ (Loc.ite ?_ (Loc.ret _)))
 .exact Loc.bnd (f:=fun t b _=>_) (iR 2) fun t=>J8 _ _ _ _
 .exact Loc.bnd (f:=fun t b _=>_) (iR 3) fun t=>J8 _ _ _ _
 .exact Loc.bnd (f:=fun t b _=>_) (iR 7) fun t=>J8 _ _ _ _
def Sj(cl:List Int)(n:Nat):∀ (F:Nat) (acc:List Int),Loc (fun b _=>WL b cl n F acc)
 | 0,_=>Loc.bad 99
 | f+1,acc=>by
  unfold WL;refine Loc.ite (Loc.ret acc) ?_;refine Loc.bnd (f:=fun s b mo=>_) (EW cl) fun s=>?_;exact Loc.bnd (f:=fun a2 b _=>WL b cl n f a2) (aau n acc s) fun a2=>Sj cl n f a2
def aav(F:Nat):Loc (fun b _=>adr b F):=by
 unfold adr;refine Loc.bnd (f:=fun nl b mo=>_) (iR 5) fun nl=>?_;refine Loc.bnd (f:=fun nd b mo=>_) (iR 5) fun nd=>?_;refine Loc.bnd (f:=fun nc b mo=>_) (iR 4) fun nc=>?_;refine Loc.ite (Loc.bad 5) ?_;refine Loc.bnd (f:=fun cl b mo=>_) (WO _ _) fun cl=>?_;refine Loc.ite ?_ (Loc.bad 5);refine Loc.bnd (f:=fun a b mo=>_) (Sj cl _ F []) fun a=>?_;exact Loc.ite (Loc.ret _) (Loc.bad 5)
def J9(F:Nat)(t:Int):Loc (fun b mo=>CS b mo F t):=by
 unfold CS;refine Loc.ite aas (Loc.ite (EX _ _ F) (Loc.ite ?_ (Loc.bad 5)));exact Loc.bnd (f:=fun c b mo=>uz b mo c.1 c.2 F) (aav F) fun c=>EX _ _ F
def aaw(F:Nat):Loc (fun b mo=>CU b mo F):=by
 unfold CU;refine Loc.look (f:=fun k o b mo=>fC (iw b 1) (fun l=>fC (iw b 2) fun t=>fC (CS b mo F t) fun _=>fun k' o'=>.ok (⟨t,l==1,k,o'.length-o.length⟩:Blk) k' o')) fun k o=>?_;refine Loc.bnd (f:=fun l b mo=>_) (iR 1) fun l=>?_;refine Loc.bnd (f:=fun t b mo=>_) (iR 2) fun t=>?_;refine Loc.bnd (f:=fun _ b mo=>_) (J9 F t) fun _=>?_;exact Loc.look (f:=fun k' o' b mo=>o9 (⟨t,l==1,k,o'.length-o.length⟩:Blk)) fun k' o'=>Loc.ret _
def Sl(F:Nat):∀ f,Loc (fun b mo=>ru b mo F f)
 | 0=>Loc.bad 99
 | f+1=>by
  unfold ru;refine Loc.bnd (f:=fun x b mo=>_) (aaw F) fun x=>?_;refine Loc.ite (Loc.ret _) ?_;exact Loc.bnd (f:=fun r _ _=>o9 (x::r)) (Sl F f) fun r=>Loc.ret _
structure Kpt (H H':AM.Heap) (o:Nat) (oa oa':Option Nat):Prop where
 len:H.length<=H'.length
 same:∀ a,oa=some a->oa'=some a
 new:∀ a,oa=none->oa'=some a->H.length<=a
 rest:∀ j,j<H.length->j≠o->(∀ a,oa=some a->j≠a)->H'[j]?=H[j]?
def Kpt.refl(H:AM.Heap)(o:Nat)(oa:Option Nat):Kpt H H o oa oa:=⟨axO _,fun _ h=>h,fun a h h2=>(by rw[h]at h2;cases h2),fun _ _ _ _=>rfl⟩
def Kpt.trans{H H1 H2:AM.Heap}{o:Nat}{oa oa1 oa2:Option Nat}(h:Kpt H H1 o oa oa1)(h2:Kpt H1 H2 o oa1 oa2):Kpt H H2 o oa oa2 where
 len:=ayO h.len h2.len
 same:=fun a ha=>h2.same a (h.same a ha)
 new:=by
  intro a ha ha2;cases h1:oa1 with
  | none=>exact ayO h.len (h2.new a h1 ha2)
  | some x=>
   have:=h2.same x h1;rw[ha2]at this;cases this;exact h.new a ha h1
 rest:=by
  intro j hj hjo hja;rw[h2.rest j (ayw hj h.len) hjo ?_,h.rest j hj hjo hja];intro a ha;cases h1:oa with
  | none=>have:=h.new a h1 ha;omega
  | some x=>
   have:=h.same x h1;rw[ha]at this;cases this;exact hja a h1
def Kpt.upd{H:AM.Heap}{o:Nat}{oa:Option Nat}(x:Option AM.Obj):Kpt H (AM.upd H o x) o oa oa where
 len:=by simp[AM.upd]
 same:=fun _ h=>h
 new:=fun a h h2=>by rw[h]at h2;cases h2
 rest:=fun j hj hjo _=>by unfold AM.upd;rw[axU (ax6 hjo)]
def Kpt.cat{H:AM.Heap}{o:Nat}{oa:Option Nat}(r:AM.Heap):Kpt H (H++r) o oa oa where
 len:=by simp
 same:=fun _ h=>h
 new:=fun a h h2=>by rw[h]at h2;cases h2
 rest:=fun j hj hjo _=>axL hj
def ji(b:List UInt8)(mo:Int)(s:Is):Prop:=s.k<=8*b.length/\(s.o.length:Int)<=mo
def dV(b:List UInt8)(mo:Int){α:Type}(m:PM α)(d:α)(s s':Is)(a:α):Prop :=
 ji b mo s'/\if s.e=0 then(match m s.k s.o with
  | .ok x k o=>s'=⟨k,o,0⟩/\a=x
  | .err e=>s'.e=e/\e≠0/\a=d)else s'=s/\a=d
section
variable {b:List UInt8}{mo:Int}{α β:Type}{s s1 s2:Is}
def dV.bnd{m:PM α}{f:α->PM β}{d x:α}{d2 y:β}(h:dV b mo m d s s1 x)(h2:dV b mo (f x) d2 s1 s2 y):dV b mo (fC m f) d2 s s2 y:=by
 refine⟨h2.1,?_⟩;have h1:=h.2;have h3:=h2.2;by_cases he:s.e=0
 .rw [if_pos he]at h1 ⊢;unfold fC;cases hm:m s.k s.o with
  | ok a k o=>
   rw[hm]at h1;obtain⟨rfl,rfl⟩:=h1;simpa using h3
  | err e=>
   rw[hm]at h1;obtain⟨h4,h5,rfl⟩:=h1;rw[if_neg (by rw[h4];exact h5)]at h3;obtain⟨rfl,rfl⟩:=h3;exact⟨h4,h5,rfl⟩
 .rw [if_neg he]at h1 ⊢;obtain⟨rfl,rfl⟩:=h1;rw[if_neg he]at h3;exact h3
def dV.ret{a d:α}(hs:ji b mo s)(h:s.e≠0->a=d):dV b mo (o9 a) d s s a:=by
 refine⟨hs,?_⟩;by_cases he:s.e=0
 .rw [if_pos he];exact⟨by rw[<- he],rfl⟩
 .rw [if_neg he];exact⟨rfl,h he⟩
def dV.map{m:PM α}{d x:α}(g:α->β)(h:dV b mo m d s s1 x):dV b mo (fC m fun a=>o9 (g a)) (g d) s s1 (g x):=by
 have h1:=h.2;refine⟨h.1,?_⟩;by_cases he:s.e=0
 .rw [if_pos he]at h1 ⊢;unfold fC;cases hm:m s.k s.o with
  | ok a k o=>
   rw[hm]at h1;obtain⟨rfl,rfl⟩:=h1;exact⟨rfl,rfl⟩
  | err e=>
   rw[hm]at h1;obtain⟨h4,h5,rfl⟩:=h1;exact⟨h4,h5,rfl⟩
 .rw [if_neg he]at h1 ⊢;obtain⟨rfl,rfl⟩:=h1;exact⟨rfl,rfl⟩
def dV.stop{m:PM α}{d:α}(hs:ji b mo s)(he:s.e≠0):dV b mo m d s s d:=⟨hs,by rw[if_neg he];exact⟨rfl,rfl⟩⟩
def dV.stopped{m:PM α}{d x:α}(h:dV b mo m d s s1 x)(he:s.e≠0):s1=s/\x=d:=by
 have:=h.2
 rwa [if_neg he]at this
def dV.fine{m:PM α}{d x:α}(h:dV b mo m d s s1 x)(he:s1.e=0):s.e=0/\m s.k s.o=.ok x s1.k s1.o:=by
 have h1:=h.2;by_cases h0:s.e=0
 .rw [if_pos h0]at h1;cases hm:m s.k s.o with
  | ok a k o=>
   rw[hm]at h1;obtain⟨rfl,rfl⟩:=h1;exact⟨h0,rfl⟩
  | err e=>
   rw[hm]at h1;exact absurd (h1.1.symm.trans he) h1.2.1
 .rw [if_neg h0]at h1;exact absurd (h1.1 ▸ he) h0
def dV.err{m:PM α}{d x:α}(h:dV b mo m d s s1 x)(h0:s.e=0)(he:s1.e≠0):m s.k s.o=.err s1.e/\x=d:=by
 have h1:=h.2;rw[if_pos h0]at h1;cases hm:m s.k s.o with
 | ok a k o=>
  rw[hm]at h1;obtain⟨rfl,rfl⟩:=h1;exact absurd rfl he
 | err e=>
  rw[hm]at h1;exact⟨by rw[h1.1],h1.2.2⟩
def dV.FM{m:PM α}{d:α}{e:Int}(hs:ji b mo s1)(h0:s.e=0)(hm:m s.k s.o=.err e)(he:s1.e=e)(hne:e≠0):dV b mo m d s s1 d:=⟨hs,by rw[if_pos h0,hm];exact⟨he,hne,rfl⟩⟩
def dV.Sm{m:PM α}{d x:α}{k:Nat}{o:List UInt8}(hs:ji b mo ⟨k,o,0⟩)(h0:s.e=0)(hm:m s.k s.o=.ok x k o):dV b mo m d s ⟨k,o,0⟩ x:=⟨hs,by rw[if_pos h0,hm];exact⟨rfl,rfl⟩⟩
end
def lD(s:Is)(e:Int):Is:=if s.e=0 then { s with e:=e } else s
def dV.bad{b:List UInt8}{mo:Int}{α:Type}{s:Is}{e:Int}{d:α}(hs:ji b mo s)(he:e≠0):dV b mo (uy e) d s (lD s e) d:=by
 unfold lD;by_cases h0:s.e=0
 .rw [if_pos h0];exact dV.FM (e:=e) ⟨hs.1,hs.2⟩ h0 rfl rfl he
 .rw [if_neg h0];exact dV.stop hs h0
section
variable {c:Nat}{b:List UInt8}{mo:Int}{t:Nat}{H:AM.Heap}{o:Nat}{oa:Option Nat}{s:Is}
def OuV.upd{vo:AV}{l:List UInt8}{x:Option AM.Obj}(h:OuV t H oa vo l)(hne:∀ a,oa=some a->a≠o):OuV t (AM.upd H o x) oa vo l:=by
 cases oa with
 | none=>exact h
 | some a=>
  obtain⟨g,τ,ob,h1,h2,h3,h4⟩:=h;exact⟨g,τ,ob,h1,h2,rV h3 (ax6 (hne a rfl)),h4⟩
def IrV.set{s':Is}{vo:AV}{τ1 τ:Nat}(hne:∀ a,oa=some a->a≠o)(h1:τ1=0\/τ1=t)(h2:τ=0\/τ=t)(ho:o<H.length)(hv:OuV t H oa vo s'.o):IrV c b mo t (AM.upd H o (some (fU c b mo s' vo τ1 τ))) o oa s' :=
 ⟨⟨vo,τ1,τ,h1,h2,by unfold AM.upd;rw[ayx ho],hv.upd hne⟩,hne⟩
def IrV.lt(h:IrV c b mo t H o oa s):o<H.length/\∀ a,oa=some a->a<H.length:=by
 obtain⟨⟨vo,τ1,τ,_,_,h0,ho⟩,_⟩:=h;refine⟨eX h0,fun a ha=>?_⟩;subst ha;obtain⟨g,τ,ob,_,_,h3,_⟩:=ho;exact eX h3
def IrV.keep{H':AM.Heap}(h:IrV c b mo t H o oa s)(h1:H'[o]?=H[o]?)(h2:∀ a,oa=some a->H'[a]?=H[a]?):IrV c b mo t H' o oa s:=by
 obtain⟨⟨vo,τ1,τ,a1,a2,h0,ho⟩,hne⟩:=h;refine⟨⟨vo,τ1,τ,a1,a2,by rw[h1];exact h0,?_⟩,hne⟩;cases oa with
 | none=>exact ho
 | some a=>
  obtain⟨g,τ,ob,b1,b2,b3,b4⟩:=ho;exact⟨g,τ,ob,b1,b2,by rw[h2 a rfl];exact b3,b4⟩
def IrV.cat{r:AM.Heap}(h:IrV c b mo t H o oa s):IrV c b mo t (H++r) o oa s:=h.keep (axL h.lt.1) fun a ha=>axL (h.lt.2 a ha)
def IrV.other{j:Nat}{x:Option AM.Obj}(h:IrV c b mo t H o oa s)(h1:j≠o)(h2:∀ a,oa=some a->j≠a):IrV c b mo t (AM.upd H j x) o oa s :=
 h.keep (by unfold AM.upd;rw[axU h1]) fun a ha=>by unfold AM.upd;rw[axU (h2 a ha)]
def FN{m:Nat}{e:Int}{E:AM.Heap}(h:IrV c b mo t E 0 oa s):∃ code,Try.f84.body=some code /\
 aj (jO fun fr E'=>IrV c b mo t E' 0 oa (lD s e)) X (evT X) 84 m code [(0,.ptr 0 0 0 0),(1,.int .i64 e)] E:=by
 refine⟨_,rfl,?_⟩;obtain⟨⟨vo,τ1,τ,a1,a2,h0,ho⟩,hne⟩:=id h;unfold lD;by_cases he:s.e=0
 .rw [if_pos he];refine⟨⟨.normal,[],AM.upd E 0 (some (fU c b mo { s with e:=e } vo τ1 τ))⟩,⟨.inl rfl,IrV.set hne a1 a2 h.lt.1 ho⟩,?_⟩;simp only[fU,he]at h0 ⊢;apply Pe;simp[-getElem?_pos,go_sem,h0]
 .rw [if_neg he];have heb:(s.e==0)=false:=by simpa using he
  refine⟨⟨.normal,[(0,.ptr 0 0 0 0),(1,.int .i64 e),(8,.bool false)],E⟩,⟨.inl rfl,h⟩,?_⟩;simp only[fU]at h0;apply Pe;simp[-getElem?_pos,go_sem,h0,he,heb]
def I4{e:Int}(h:IrV c b mo t H o oa s):∃ H',evT X 84 [.ptr o 0 0 0,.int .i64 e] H=some (.tup [],H')/\IrV c b mo t H' o oa (lD s e)/\Kpt H H' o oa oa:=by
 obtain⟨code,hc,_⟩:=FN (m:=0) (e:=e) (E:=[some (fU c b mo s (.ro 0 .pn 0) 0 0)]) (c:=c) (b:=b) (mo:=mo) (t:=0) (oa:=none) (s:=⟨s.k,[],s.e⟩) ⟨⟨_,0,0,.inl rfl,.inl rfl,rfl,rfl,0,.inl rfl,rfl⟩,fun a h=>by cases h⟩;obtain⟨H',oa',s',l,hE,hV,⟨hs,hl,hr⟩,h1,h2,h3,h4⟩:=RU (f:=84) (n:=3) (xs:=[.int .i64 e]) (ys:=[.int .i64 e]) (Q:=fun s' l r=>s'=lD s e/\l=[]/\r=oa.isSome) Try.func84 hc rfl h (fun π K _=>gG.flat rfl rfl gG.nil) rfl rfl (by simp[dA]) (by
  intro m E hE;obtain⟨nM,hc2,ht⟩:=FN (m:=m) (e:=e) hE;rw[hc]at hc2;obtain rfl:=axN hc2;rw[af0];exact ht.mono fun o ho=>⟨ho.1,_,_,[],rfl,rfl,rfl,rfl,ho.2,fun h=>(by cases oa with
   | none=>exact absurd rfl h
   | some a=>rfl),rfl,rfl,by cases oa<;>rfl⟩)
 subst hs hl;have hoa:oa'=oa:=by
  cases oa with
  | none=>cases oa' with
   | none=>rfl
   | some a=>cases hr
  | some a=>exact h2 a rfl
 subst hoa;exact⟨H',hE,hV,⟨h1,h2,h3,h4⟩⟩
def rX{e:Int}(h:IrV c b mo t H o oa s):∃ H' oa',evT X 84 [.ptr o 0 0 0,.int .i64 e] H=some (.tup [],H')/\IrV c b mo t H' o oa' (lD s e)/\Kpt H H' o oa oa':=by
 obtain⟨H',h1,h2,h3⟩:=I4 (e:=e) h;exact⟨H',oa,h1,h2,h3⟩
def bsB(H:AM.Heap)(y:UInt8):bT X H 22 1 [(0,.int .u8 (y.toNat:Nat))]=some (.ro 1 (.pb [y]) 0,H):=by
 have:=y.toNat_lt;have h1:(y.toNat:Int)<256:=by omega
 simp[bT,iY,qN,mkRow,jJ,eF,cellsOf,scalars,scalar,aC,ids,aW,tags,bY,h1]
def OuV.app{vo:AV}{l:List UInt8}(y:UInt8)(h:OuV t H oa vo l)(hH:0<H.length)(hne:∀ a,oa=some a->a≠0)(hl:l.length<=10000000):∃ v' H' oa',bG X H 22 vo (.ro 1 (.pb [y]) 0)=some (v',H')/\OuV t H' oa' v' (l++[y])/\Kpt H H' 0 oa oa'/\H'[0]?=H[0]?/\(∀ a,oa'=some a->a≠0):=by
 cases oa with
 | none=>
  obtain⟨rfl,τ,hτ,rfl⟩:=h;have hat:(H++[some (⟨.pb [y],0,none,0,true,false,0⟩:AM.Obj)])[H.length]?=some (some ⟨.pb [y],0,none,0,true,false,0⟩):=by simp
  refine⟨.sl H.length 0 1 0,H++[some ⟨.pb [y],0,none,0,true,false,0⟩],some H.length,?_,⟨0,0,_,.inl rfl,rfl,hat,⟨rfl,rfl,rfl,rfl,rfl⟩⟩,⟨by simp,fun a h=>(by cases h),fun a _ h=>(by cases h;exact axO _),fun j hj _ _=>axL hj⟩,axL hH,fun a h=>by cases h;omega⟩;simp only[bG,lM,nO,vN];simp[gJ,jq,ah,kH,dQ,l9,dh,aS]
 | some a=>
  obtain⟨g,τ,ob,hτ,rfl,ho,hw⟩:=h;obtain⟨ob',w1,w2⟩:=Aj (C:=X) (T:=22) (e:=5) (src:=.ro 1 (.pb [y]) 0) (m:=[y]) lM Ai nO bytes5 vN ho hw (.inl (by simp[gJ,jq,kH])) (by simp;omega);refine⟨_,_,some a,w2,⟨g+1,τ,ob',hτ,by simp,setAt ho,w1⟩,⟨by simp[AM.upd],fun a' h=>h,fun a' h=>(by cases h),fun j hj h0 hja=>by unfold AM.upd;rw[axU (ax6 (hja a rfl))]⟩,by unfold AM.upd;rw[axU (hne a rfl)],hne⟩
def af2{m:Nat}{y:UInt8}{E:AM.Heap}{bb:Bool}(h:IrV c b mo t E 0 oa s):∃ code,Try.f85.body.bind (ay [1,0,0])=some code/\Run X (evT X) 85 m code [(0,.ptr 0 0 0 0),(1,.int .u8 (y.toNat:Nat)),(8,.bool bb)] E ⟨.normal,[(0,.ptr 0 0 0 0),(1,.int .u8 (y.toNat:Nat)),(18,.bool (decide (mo<=s.o.length)))],E⟩:=by
 refine⟨_,rfl,?_⟩;obtain⟨⟨vo,τ1,τ,a1,a2,h0,ho⟩,hne⟩:=id h;simp only[fU]at h0;cases oa with
 | none=>
  obtain⟨h1,τ2,hτ2,rfl⟩:=ho;rw[h1];apply Pe;simp[-getElem?_pos,go_sem,h0]
 | some a=>
  obtain⟨g,τ2,ob,hτ2,rfl,h3,h4⟩:=ho;have hg:=h4.g;generalize s.o.length=N at *;apply Pe;simp[-getElem?_pos,go_sem,h0,h3,hg]
def Uu{m:Nat}{y:UInt8}{E:AM.Heap}(h:IrV c b mo t E 0 oa s)(hs:ji b mo s)(hm:mo<=1000000):∃ code,Try.f85.body=some code /\
 aj (jO fun fr E'=>∃ s' oa',IrV c b mo t E' 0 oa' s'/\(∀ a,oa=some a->oa'=some a)/\dV b mo (qZ mo y) () s s' ()) X (evT X) 85 m code [(0,.ptr 0 0 0 0),(1,.int .u8 (y.toNat:Nat))] E:=by
 refine⟨_,rfl,?_⟩;obtain⟨⟨vo,τ1,τ,a1,a2,h0,ho⟩,hne⟩:=id h;by_cases he:s.e=0
 .apply aj.seq (fr':=[(0,.ptr 0 0 0 0),(1,.int .u8 (y.toNat:Nat)),(8,.bool false)]) (H':=E)
  .simp only[fU,he]at h0;apply Pe;simp[-getElem?_pos,go_sem,h0]
  apply aj.assoc;apply aj.seq (piece (af2 h) _ rfl);by_cases hl:(s.o.length:Int)<mo
  .have hlI:decide (mo<=(s.o.length:Int))=false:=by simpa using hl
   rw[hlI];have hbs:=bsB E y;obtain⟨v',E',oa',hA,hv',hk,hE0,hne'⟩:=ho.app y h.lt.1 hne (by omega);have h0':E'[0]?=some (some (fU c b mo s vo τ1 τ)):=by rw[hE0];exact h0
   refine⟨⟨.normal,[],AM.upd E' 0 (some (fU c b mo ⟨s.k,s.o++[y],0⟩ v' τ1 τ))⟩,⟨.inl rfl,⟨s.k,s.o++[y],0⟩,oa',IrV.set hne' a1 a2 (eX h0') hv',hk.same,dV.Sm ⟨hs.1,by simp;omega⟩ he (by simp[qZ,hl])⟩,?_⟩;simp only[fU,he]at h0 h0' ⊢;cases oa' with
   | none=>exact absurd hv'.1 (by simp)
   | some a=>
    obtain⟨g,τ2,ob,_,rfl,_⟩:=hv';generalize (s.o++[y]).length=N at *;apply Pe;simp[-getElem?_pos,go_sem,h0,h0',hbs,hA]
  .have hlI:decide (mo<=(s.o.length:Int))=true:=by simp;omega
   rw[hlI];obtain⟨H',oa',hE,hV,hk⟩:=rX (e:=3) h;have hfs:lD s 3={ s with e:=3 }:=by unfold lD;rw[if_pos he]
   refine⟨⟨.ret,[],H'⟩,⟨.inr rfl,_,oa',hV,hk.same,?_⟩,?_⟩
   .rw [hfs];exact dV.FM (e:=3) ⟨hs.1,hs.2⟩ he (by simp[qZ,hl]) rfl (by simp)
   .apply Pe;simp[-getElem?_pos,go_sem,hE]
 .refine ⟨⟨.ret,[(0,.ptr 0 0 0 0),(1,.int .u8 (y.toNat:Nat)),(8,.bool true)],E⟩,⟨.inr rfl,s,oa,h,fun a ha=>ha,dV.stop hs he⟩,?_⟩;have heb:(s.e != 0)=true:=by simpa using he
  simp only[fU]at h0;apply Pe;simp[-getElem?_pos,go_sem,h0,he,heb]
end
def Sr{v:Nat}(h:v<9223372036854775808):(AM.bits .i64 (v:Int)).toNat=v:=by
 unfold AM.bits;simp[IntKind.bits];omega
def ads{v:Nat}(h:v<256):(AM.bits .u8 (v:Int)).toNat=v:=by
 unfold AM.bits;simp[IntKind.bits];omega
def adt{v:Nat}(h:v<256):IntKind.u8.wrap ((AM.bits .u8 (v:Int)&&& AM.bits .u8 1).toNat:Nat)=((v%2:Nat):Int):=by
 rw[azY,ads h,show(AM.bits .u8 1).toNat=1 by decide,az9,wrap_u8 (by omega) (by omega)]
def af4{x y i:Nat}(hx:x<2 ^ i)(hi:i<32)(hy:y<=1):IntKind.i64.wrap ((AM.bits .i64 (x:Int)||| AM.bits .i64 ((y*2 ^ i:Nat):Int)).toNat:Nat)=((x+y*2 ^ i:Nat):Int):=by
 have h1:2 ^ i<=2 ^ 31:=ayo (by omega) (by omega);have h2:y*2 ^ i<=2 ^ i:=by have:=ayi (2 ^ i) hy;omega
 rw[az7,Sr (by omega),Sr (by omega)];have h3:=Nat.shiftLeft_add_eq_or_of_lt (i:=i) (b:=x) hx y;rw[Nat.shiftLeft_eq]at h3;rw[Nat.or_comm,<- h3,wrap_i64 (by omega) (by omega)];omega
def MF(b:List UInt8)(i:Nat):Nat:=(b.getD (i/8) 0).toNat/2 ^ (i%8)%2
def adu(b:List UInt8)(i:Nat):iU b i=(MF b i:Nat):=rfl
def Sv(b:List UInt8)(i:Nat):MF b i<=1:=by unfold MF;omega
def wO(b:List UInt8)(k:Nat):Nat->Nat
 | 0=>0
 | n+1=>wO b k n+MF b (k+n)*2 ^ n
def Ko(b:List UInt8)(k:Nat):∀ n,wO b k n<2 ^ n
 | 0=>by simp[wO]
 | n+1=>by
  have h1:=Ko b k n;have h2:=Sv b (k+n);have h3:=ayi (2 ^ n) h2;rw[wO,aAb];omega
def EY(b:List UInt8)(k:Nat)(o:List UInt8):∀ n,k+n<=8*b.length->iw b n k o=.ok ((wO b k n:Nat):Int) (k+n) o
 | 0,_=>rfl
 | n+1,h=>by
  unfold iw;rw[eP (EY b k o n (by omega))];unfold fC wX;rw[if_pos (by omega)];simp only[o9,adu,wO];congr 1;rw[Int.natCast_add,Int.natCast_mul,Int.mul_comm];simp
def FP(b:List UInt8)(k:Nat)(o:List UInt8)(hk:k<=8*b.length):∀ n,8*b.length<k+n->iw b n k o=.err 4
 | 0,h=>by omega
 | n+1,h=>by
  unfold iw;by_cases h1:k+n<=8*b.length
  .rw [eP (EY b k o n h1)];unfold fC wX;rw[if_neg (by omega)]
  .rw [FK (FP b k o hk n (by omega))]
section
variable {c:Nat}{b:List UInt8}{mo:Int}{t:Nat}{H:AM.Heap}{o:Nat}{oa:Option Nat}{s:Is}
def mg(n:Int)(x i:Nat):AM.Frame:=[(0,.ptr 0 0 0 0),(1,.int .i64 n),(5,.int .i64 (x:Nat)),(6,.int .i64 (i:Nat))]
def WQ{m n x i:Nat}{E:AM.Heap}(h:IrV c b mo t E 0 oa s):∃ code,Try.f80.body.bind (ay [1,1,0,1,0,0,0,0])=some code/\Run X (evT X) 80 m code (mg (n:Nat) x i) E ⟨.normal,mg (n:Nat) x i++[(16,.bool (decide (i<n)&&(s.e==0)))],E⟩:=by
 refine⟨_,rfl,?_⟩;obtain⟨⟨vo,τ1,τ,a1,a2,h0,ho⟩,hne⟩:=id h;simp only[fU]at h0;by_cases hi:i<n
 .have hI:(i:Int)<(n:Int):=by omega
  simp only[mg,hi,decide_true,azh];apply Pe;simp[-getElem?_pos,go_sem,h0,hI]
 .have hI:¬ (i:Int)<(n:Int):=by omega
  simp only[mg,hi,decide_false,azb];apply Pe;simp[-getElem?_pos,go_sem,h0,hI]
def acL{m x i:Nat}{n:Int}{E:AM.Heap}(h:IrV c b mo t E 0 oa s)(hk:s.k<=8*b.length)(hb:b.length<=100000):∃ code,Try.f80.body.bind (ay [1,1,0,1,0,0,1,0,0,0,0])=some code/\Run X (evT X) 80 m code (mg n x i++[(16,.bool true)]) E ⟨.normal,mg n x i++[(29,.bool (decide (8*b.length<=s.k)))],E⟩:=by
 refine⟨_,rfl,?_⟩;obtain⟨⟨vo,τ1,τ,a1,a2,h0,ho⟩,hne⟩:=id h;simp only[fU]at h0;generalize s.k=q at *;have e1:((q:Nat):Int).tdiv 8=((q/8:Nat):Int):=by rw[ayR (by omega)];omega
 have e2:((q:Nat):Int)/8=((q/8:Nat):Int):=by omega
 have w1:IntKind.i64.wrap ((q/8:Nat):Int)=((q/8:Nat):Int):=wrap_i64 (by omega) (by omega);have hd:decide (8*b.length<=q)=decide ((b.length:Int)<=((q/8:Nat):Int)):=by
  by_cases h1:8*b.length<=q
  .rw [decide_eq_true h1,decide_eq_true (by omega)]
  .rw [decide_eq_false h1,decide_eq_false (by omega)]
 rw[hd];generalize q/8=q8 at *;simp only[mg];apply Pe;simp[-getElem?_pos,go_sem,h0,e1,e2,w1]
def af5{m x i:Nat}{n:Int}{E:AM.Heap}{d:Bool}(h:IrV c b mo t E 0 oa s)(hk:s.k<8*b.length)(hb:b.length<=100000)(hx:x<2 ^ i)(hi:i<32):∃ code,Try.f80.body.bind (ay [1,1,0,1,0,0,1,0,0,1,0])=some code/\Run X (evT X) 80 m code (mg n x i++[(29,.bool d)]) E ⟨.normal,mg n (x+MF b s.k*2 ^ i) i,E⟩:=by
 refine⟨_,rfl,?_⟩;obtain⟨⟨vo,τ1,τ,a1,a2,h0,ho⟩,hne⟩:=id h;simp only[fU]at h0;generalize s.k=q at *;have hq0:q/8<b.length:=by omega
 obtain⟨y,hget⟩:∃ y,b[q/8]?=some y:=⟨_,axI hq0⟩;have hn:MF b q=y.toNat/2 ^ (q%8)%2:=by unfold MF;rw[axQ,hget];rfl
 have e1:((q:Nat):Int).tdiv 8=((q/8:Nat):Int):=by rw[ayR (by omega)];omega
 have e2:((q:Nat):Int)/8=((q/8:Nat):Int):=by omega
 have e3:((q:Nat):Int).tmod 8=((q%8:Nat):Int):=by rw[ay9 (by omega)];omega
 have e4:((q:Nat):Int)%8=((q%8:Nat):Int):=by omega
 have w1:IntKind.i64.wrap ((q/8:Nat):Int)=((q/8:Nat):Int):=wrap_i64 (by omega) (by omega);have hr8:q%8<8:=by omega
 have hr0:¬ (((q%8:Nat):Int)<0):=by omega
 have hm8:min (q%8) 8=q%8:=by omega
 have hv:((y.toNat:Nat):Int).fdiv (2 ^ (q%8))=((y.toNat/2 ^ (q%8):Nat):Int):=by rw[ayH _ (by exact Int.le_of_lt (azU (by omega)))];simp
 have hvl:y.toNat/2 ^ (q%8)<256:=Nat.lt_of_le_of_lt (az5 _ _) y.toNat_lt;have hA:=adt hvl;have hA2:=hA;simp only[go_sem]at hA2;rw[<- hn]at hA hA2;have hy:=Sv b q;generalize MF b q=z at *;have hz:IntKind.i64.wrap ((z:Nat):Int)=(z:Int):=wrap_i64 (by omega) (by omega);have h1:2 ^ i<=2 ^ 31:=ayo (by omega) (by omega);have h2:z*2 ^ i<=2 ^ i:=by have:=ayi (2 ^ i) hy;omega
 have hs:IntKind.i64.wrap ((z:Int)*2 ^ i)=((z*2 ^ i:Nat):Int):=by rw[show(z:Int)*2 ^ i=((z*2 ^ i:Nat):Int)by simp];exact wrap_i64 (by omega) (by omega)
 have hmi:min i 64=i:=by omega
 have hi0:¬ ((i:Nat):Int)<0:=by omega
 have hO:=af4 hx hi hy;have hO2:=hO;simp only[go_sem]at hO2;have hq8:((q/8:Nat):Int)<(b.length:Int):=by omega
 generalize q/8=q8 at *;generalize q % 8=r8 at *;generalize y.toNat/2 ^ r8=v at *;generalize z * 2 ^ i=w at *;generalize x + w=xw at *;simp only[mg];apply Pe;simp[-getElem?_pos,go_sem,h0,e1,e2,e3,e4,w1,hq8,hq0,hget,hr0,hm8,hv,hA,hA2,hz,hs,hmi,hi0,hO,hO2]
def af6{m x i:Nat}{n:Int}{E:AM.Heap}(h:IrV c b mo t E 0 oa s)(hk:s.k<8*b.length)(hb:b.length<=100000):∃ E',IrV c b mo t E' 0 oa { s with k:=s.k+1 }/\∃ code,Try.f80.body.bind (ay [1,1,0,1,0,0,1,0,0,1,1])=some code/\Run X (evT X) 80 m code (mg n x i) E ⟨.normal,mg n x i,E'⟩:=by
 obtain⟨⟨vo,τ1,τ,a1,a2,h0,ho⟩,hne⟩:=id h;refine⟨AM.upd E 0 (some (fU c b mo { s with k:=s.k+1 } vo τ1 τ)),IrV.set hne a1 a2 h.lt.1 ho,_,rfl,?_⟩;have w:IntKind.i64.wrap ((s.k:Int)+1)=((s.k+1:Nat):Int):=by rw[wrap_i64 (by omega) (by omega)];omega
 simp only[fU,mg]at h0 ⊢;generalize s.k + 1=k1 at *;apply Pe;simp[-getElem?_pos,go_sem,h0,w]
def PO{m n:Nat}{E:AM.Heap}(h:IrV c b mo t E 0 oa s)(hs:ji b mo s)(hb:b.length<=100000)(hn:n<=16):∃ code,Try.f80.body=some code /\
 aj (jO fun fr E'=>∃ s' oa' a,aT X fr E' Try.f80.results.toList=some [.int .i64 a]/\IrV c b mo t E' 0 oa' s'/\(∀ x,oa=some x->oa'=some x)/\dV b mo (iw b n) 0 s s' a) X (evT X) 80 m code [(0,.ptr 0 0 0 0),(1,.int .i64 (n:Nat))] E:=by
 refine⟨_,rfl,?_⟩;apply aj.seq
 ·(refine⟨0,?_⟩;conv=>lhs;simp[-getElem?_pos,go_sem,ak])
 apply aj.seq
 ·(refine⟨0,?_⟩;conv=>lhs;simp[-getElem?_pos,go_sem,ak])
 apply aj.assoc;apply aj.seq (fr':=mg (n:Nat) 0 0) (H':=E)
 .apply Pe;simp[-getElem?_pos,go_sem,mg,ak]
 apply aj.I5 (P:=fun fr E'=>∃ s' oa' i,∃ x:Nat,fr=mg (n:Nat) x i++[(16,.bool false)]/\IrV c b mo t E' 0 oa' s'/\(∀ a,oa=some a->oa'=some a)/\dV b mo (iw b n) 0 s s' (x:Nat))
 .by_cases he:s.e=0
  .refine aj.jP (I:=fun k fr E'=>∃ oa' i,i<=n/\k=n-i/\s.k+i<=8*b.length/\fr=mg (n:Nat) (wO b s.k i) i/\IrV c b mo t E' 0 oa' ⟨s.k+i,s.o,0⟩/\(∀ a,oa=some a->oa'=some a)) ?_ (k:=n) ⟨oa,0,by omega,by omega,by have:=hs.1;omega,rfl,(by rw[<- he];exact h),fun a ha=>ha⟩;rintro k fr E' ⟨oa',i,hi,rfl,hki,rfl,hV,hm⟩;by_cases hin:i=n
   .subst hin;refine aj.of (o:=⟨.exit 0,mg (i:Nat) (wO b s.k i) i++[(16,.bool false)],E'⟩) ?_ (.inr ⟨by simp,.inl ⟨rfl,_,oa',i,wO b s.k i,rfl,hV,hm,dV.Sm ⟨hki,hs.2⟩ he (EY b s.k s.o i hki)⟩⟩);apply Run.bK
    .have h3:=WQ (m:=m) (n:=i) (x:=wO b s.k i) (i:=i) hV;simp only[Nat.lt_irrefl,decide_false,azb]at h3;apply Run.seq (piece h3 _ rfl);refine⟨0,?_⟩;simp only[mg];simp[-getElem?_pos,go_sem]
    .simp
   .have hin':i<n:=by omega
    apply aj.seq (fr':=mg (n:Nat) (wO b s.k i) i++[(16,.bool true)]) (H':=E')
    .have h3:=WQ (m:=m) (n:=n) (x:=wO b s.k i) (i:=i) hV;simp only[hin',decide_true,azh,beq_self_eq_true]at h3;apply Run.seq (piece h3 _ rfl);refine⟨0,?_⟩;simp only[mg];simp[-getElem?_pos,go_sem]
    by_cases hsh:8*b.length<=s.k+i
    .-- too short
     obtain⟨E2,oa2,hE2,hV2,hk2⟩:=rX (e:=4) hV;refine aj.of (o:=⟨.ret,[(4,.int .i64 0)],E2⟩) ?_ (.inr ⟨by simp,.inr ⟨rfl,.inr rfl,?_⟩⟩)
     .apply Run.bK
      .apply Run.block
       .apply Run.bK
        .have h5:=acL (m:=m) (x:=wO b s.k i) (i:=i) (n:=(n:Nat)) hV hki hb;simp only[hsh,decide_true]at h5;apply Run.seq (piece h5 _ rfl);refine⟨0,?_⟩;simp only[mg];simp[-getElem?_pos,go_sem,hE2,ak]
        .simp
       .simp
      .simp
     .refine ⟨_,oa2,0,rfl,hV2,fun a ha=>hk2.same a (hm a ha),?_⟩;refine dV.FM (e:=4) ?_ he (FP b s.k s.o hs.1 n (by omega)) ?_ (by simp)
      .simp [lD];exact⟨hki,hs.2⟩
      .simp [lD]
    .have hlt:s.k+i<8*b.length:=by omega
     obtain⟨E2,hV2,hr9⟩:=af6 (m:=m) (x:=wO b s.k (i+1)) (i:=i) (n:=(n:Nat)) hV hlt hb;refine aj.of (o:=⟨.normal,mg (n:Nat) (wO b s.k (i+1)) (i+1),E2⟩) ?_ (.inl ⟨rfl,n-(i+1),by omega,oa',i+1,by omega,rfl,by omega,rfl,hV2,hm⟩);apply Run.seq (fr':=mg (n:Nat) (wO b s.k (i+1)) i) (H':=E2)
     .apply Run.block
      .apply Run.seq (fr':=mg (n:Nat) (wO b s.k i) i++[(29,.bool false)]) (H':=E')
       .have h5:=acL (m:=m) (x:=wO b s.k i) (i:=i) (n:=(n:Nat)) hV hki hb;simp only[hsh,decide_false]at h5;apply Run.seq (piece h5 _ rfl);refine⟨0,?_⟩;simp only[mg];simp[-getElem?_pos,go_sem]
       apply Run.seq (piece (af5 (m:=m) (n:=(n:Nat)) hV hlt hb (Ko b s.k i) (by omega)) _ rfl);exact piece hr9 _ rfl
      .simp
     .have w:IntKind.i64.wrap ((i:Int)+1)=((i+1:Nat):Int):=by rw[wrap_i64 (by omega) (by omega)];omega
      simp only[mg];apply Pe;simp[-getElem?_pos,go_sem,w,ak]
  .refine aj.jP (I:=fun k fr E'=>fr=mg (n:Nat) 0 0/\E'=E) ?_ (k:=0) ⟨rfl,rfl⟩;rintro k fr E' ⟨rfl,rfl⟩;refine aj.of (o:=⟨.exit 0,mg (n:Nat) 0 0++[(16,.bool false)],E'⟩) ?_ (.inr ⟨by simp,.inl ⟨rfl,s,oa,0,0,rfl,h,fun a ha=>ha,dV.stop hs he⟩⟩);apply Run.bK
   .have h3:=WQ (m:=m) (n:=n) (x:=0) (i:=0) h;rw[show(s.e==0)=false by simpa using he,Bool.and_false]at h3;apply Run.seq (piece h3 _ rfl);refine⟨0,?_⟩;simp only[mg];simp[-getElem?_pos,go_sem]
   .simp
 .rintro fr E' ⟨s',oa',i,x,rfl,hV,hm,hr⟩;refine aj.of (o:=⟨.ret,[(4,.int .i64 (x:Nat))],E'⟩) ?_ ⟨.inr rfl,s',oa',(x:Nat),rfl,hV,hm,hr⟩;refine⟨0,?_⟩;simp only[mg];simp[-getElem?_pos,go_sem,ak]
end
def dW(x:Int):List Int->Nat->List Int
 | [],_=>[]
 | y::r,i=>if y=x then(i:Int)::dW x r (i+1)else dW x r (i+1)
def rH(x y:Int):∀ (l:List Int) (i:Nat),dW x (l++[y]) i=dW x l i++(if y=x then[((i+l.length:Nat):Int)]else[])
 | [],i=>by simp[dW]
 | z::r,i=>by
  simp only[ayj,dW,rH x y r (i+1),axY];rw[show i+1+r.length=i+(r.length+1)by omega];split<;>simp
def FQ(x:Int):∀ (l:List Int) (i:Nat),dW x l i=[] ↔ x∉l
 | [],i=>by simp[dW]
 | z::r,i=>by
  simp only[dW,ax2,not_or];by_cases h:z=x
  .simp [h]
  .rw [if_neg h,FQ x r (i+1)];exact⟨fun g=>⟨fun e=>h e.symm,g⟩,fun g=>g.2⟩
def lQ(ps:List Int)(g t:Nat):Option AM.Obj:=some { p:=.pi .i64 ps,g:=g,cap:=.none,z:=if ps.length<=1 then 0 else 1,row:=true,ids:=false,tg:=t }
def syV(d tn:Nat)(ks:List Int)(l:List Int)(gr:Bool)(x:Int):AV :=
 if x∈ks then .sl (d+ks.idxOf x) 0 (dW x l 0).length (if gr then(dW x l 0).length-1 else 0)else .ro 0 .pn tn
def kX:List Int:=[0,1,2,3,4,5,6,7,8,9,10,11,12,13,14,15]
def kY(v:AV)(t:Nat):Option AM.Obj:=some { p:=.pc [v],g:=0,cap:=some 1,z:=1,row:=false,ids:=true,tg:=t }
def qF(k:Nat)(n:List Int)(t:Nat):Option AM.Obj:=some { p:=.pi .i64 n,g:=0,cap:=some k,z:=1,row:=false,ids:=false,tg:=t }
def wP(s:List AV)(t:Nat):Option AM.Obj:=some { p:=.pc s,g:=0,cap:=some 16,z:=1,row:=false,ids:=true,tg:=t }
def rdH(c:Nat)(b:List UInt8)(a:Int)(n f:List Int)(ks done:List Int)(m:Int):AM.Heap :=
 [kY (.ro c (.pb b) 2) 0,kY (.int .i64 a) 0,qF 16 n 0,qF 17 f 0,wP (kX.map (syV 6 0 ks done true)) 0,kY (.int .i64 m) 0]++ks.map fun x=>lQ (dW x done 0) ((dW x done 0).length-1) 0
def aax{H:AM.Heap}(i:Int):bG X H 36 (.ro 0 .pn 0) (.ro 1 (.pi .i64 [i]) 0)=some (.sl H.length 0 1 0,H++[lQ [i] 0 0]):=by
 have hroom:dQ X 3 1=true:=by simp[dQ]
 simp only[bG,I7,size3,Uw];simp[gJ,jq,ah,dh,l9,aS,kH,dJ,hroom,lQ]
def aay{H:AM.Heap}{o g:Nat}{ps:List Int}(i:Int)(ho:H[o]?=some (lQ ps g 0))(h0:ps≠[])(h:ps.length<=100000):bG X H 36 (.sl o 0 ps.length g) (.ro 1 (.pi .i64 [i]) 0)=some (.sl o 0 (ps.length+1) (g+1),H.set o (lQ (ps++[i]) (g+1) 0)):=by
 have hroom:dQ X 3 (ps.length+1)=true:=by simp[dQ];omega
 have ho':H[o]?=some (some ⟨.pi .i64 ps,g,.none,(if ps.length<=1 then 0 else 1),true,false,0⟩):=ho;simp only[bG,I7,size3,Uw];simp[gJ,jq,ah,live,ho',gq,l9,aS,kH,dJ,hroom,upd,lQ,h0]
def Kq(ks done:List Int):Prop:=ks.Nodup/\∀ x,x∈ks ↔ x∈done
def EZ{x:Int}(h:0<=x/\x<=15):kX[x.toNat]?=some x:=by
 have hx:x=0\/x=1\/x=2\/x=3\/x=4\/x=5\/x=6\/x=7\/x=8\/x=9\/x=10\/x=11\/x=12\/x=13\/x=14\/x=15:=by omega
 rcases hx with rfl|rfl|rfl|rfl|rfl|rfl|rfl|rfl|rfl|rfl|rfl|rfl|rfl|rfl|rfl|rfl<;>rfl
def FT{j:Nat}(h:j<16):kX[j]?=some (j:Int):=by
 have:=EZ (x:=(j:Int)) (by omega)
 rwa [show((j:Int)).toNat=j by omega]at this
def I8(d tn:Nat)(ks ks' done:List Int)(x:Int)(v:AV)(hx:0<=x/\x<=15)(hv:v=syV d tn ks' (done++[x]) true x)(hk:∀ y,y≠x->((y∈ks' ↔ y∈ks)/\(y∈ks->ks'.idxOf y=ks.idxOf y))) :
 (kX.map (syV d tn ks done true)).set x.toNat v=kX.map (syV d tn ks' (done++[x]) true):=by
 refine ayL fun j=>?_;rw[azk];by_cases hj:j<16
 .by_cases e:x.toNat=j
  .subst e;have:x.toNat<(kX.map (syV d tn ks done true)).length:=by simp[kX];omega
   rw[if_pos rfl,if_pos this,axP,EZ hx,hv];rfl
  .rw [if_neg e,axP,axP,FT hj];simp only[axM,axH];have hne:(j:Int)≠x:=by omega
   obtain⟨h1,h2⟩:=hk (j:Int) hne;have hp:dW (j:Int) (done++[x]) 0=dW (j:Int) done 0:=by rw[rH,if_neg (fun z=>hne z.symm)];simp
   unfold syV;rw[hp];by_cases hm:(j:Int)∈ks
   .rw [if_pos hm,if_pos (h1.2 hm),h2 hm]
   .rw [if_neg hm,if_neg (fun z=>hm (h1.1 z))]
 .have h1:(kX.map (syV d tn ks done true)).length<=j:=by simp[kX];omega
  have h2:(kX.map (syV d tn ks' (done++[x]) true)).length<=j:=by simp[kX];omega
  have h3:¬ x.toNat=j:=by omega
  rw[if_neg h3,ax0 h1,ax0 h2]
def aaz(Bx:List (Option AM.Obj))(hB:Bx.length=6)(ks done:List Int)(x:Int)(hx:0<=x/\x<=15)(hk:Kq ks done)(hl:done.length<=320) :
 ∃ o2 n2 g2 R' ks',bG X (Bx++ks.map fun x=>lQ (dW x done 0) ((dW x done 0).length-1) 0) 36 (syV 6 0 ks done true x) (.ro 1 (.pi .i64 [(done.length:Int)]) 0)=some (.sl o2 0 n2 g2,Bx++R') /\
  Kq ks' (done++[x])/\(kX.map (syV 6 0 ks done true)).set x.toNat (.sl o2 0 n2 g2)=kX.map (syV 6 0 ks' (done++[x]) true)/\R'=ks'.map (fun y=>lQ (dW y (done++[x]) 0) ((dW y (done++[x]) 0).length-1) 0):=by
 have hpl:∀ y (m:List Int) (i:Nat),(dW y m i).length<=m.length:=by
  intro y m;induction m with
  | nil=>intro i;simp[dW]
  | cons z r ih=>intro i;simp only[dW];split<;>simp<;>have:=ih (i+1)<;>omega
 by_cases hin:x∈ks
 .-- there already
  have hxd:x∈done:=(hk.2 x).1 hin;have hne:dW x done 0≠[]:=fun z=>(FQ x done 0).1 z hxd;have hlen:0<(dW x done 0).length:=List.length_pos_iff.2 hne;have hix:ks.idxOf x<ks.length:=ayE hin;have hat:(Bx++ks.map fun x=>lQ (dW x done 0) ((dW x done 0).length-1) 0)[6+ks.idxOf x]?=some (lQ (dW x done 0) ((dW x done 0).length-1) 0):=by rw[axS (by omega),hB,show 6+ks.idxOf x-6=ks.idxOf x by omega,axP,axI hix];simp
  have happ:=aay (done.length:Int) hat hne (by have:=hpl x done 0;omega);have hv:syV 6 0 ks done true x=.sl (6+ks.idxOf x) 0 (dW x done 0).length ((dW x done 0).length-1):=by simp[syV,hin]
  rw[hv,happ];have hpx:dW x (done++[x]) 0=dW x done 0++[(done.length:Int)]:=by rw[rH];simp
  refine⟨6+ks.idxOf x,(dW x done 0).length+1,(dW x done 0).length-1+1,(ks.map fun x=>lQ (dW x done 0) ((dW x done 0).length-1) 0).set (ks.idxOf x) (lQ (dW x done 0++[(done.length:Int)]) ((dW x done 0).length-1+1) 0),ks,?_,⟨hk.1,?_⟩,?_,?_⟩
  .rw [List.set_append_right _ _ (by omega),hB,show 6+ks.idxOf x-6=ks.idxOf x by omega]
  .intro y;rw[hk.2 y];simp only[axV,ayb];exact⟨fun h=>.inl h,fun h=>h.elim id (fun e=>e ▸ hxd)⟩
  .refine I8 6 0 ks ks done x _ hx ?_ fun y _=>⟨Iff.rfl,fun _=>rfl⟩;unfold syV;rw[if_pos hin,hpx];simp;omega
  .refine ayL fun j=>?_;rw[azk];by_cases hj:j<ks.length
   .by_cases e:ks.idxOf x=j
    .subst e;rw[if_pos rfl,if_pos (by simpa using hix),axP,axI hix];simp only[axM,axH];rw[azO,hpx];simp;congr 1;omega
    .rw [if_neg e,axP,axP,axI hj];simp only[axM,axH];have hne2:¬ x=ks[j]:=by intro z;apply e;rw[z];exact List.Nodup.idxOf_getElem hk.1 j hj
     rw[rH,if_neg hne2];simp
   .rw [ax0 (by simp;omega)];rw[if_neg (by omega),ax0 (by simp;omega)]
 .have hxd:x∉done:=fun h=>hin ((hk.2 x).2 h);have hp0:dW x done 0=[]:=(FQ x done 0).2 hxd;have hv:syV 6 0 ks done true x=.ro 0 .pn 0:=by simp[syV,hin]
  have hpx:dW x (done++[x]) 0=[(done.length:Int)]:=by rw[rH,hp0];simp
  rw[hv,aax];have hix:(ks++[x]).idxOf x=ks.length:=by rw[List.idxOf_append,if_neg hin];simp
  refine⟨(Bx++ks.map fun x=>lQ (dW x done 0) ((dW x done 0).length-1) 0).length,1,0,(ks.map fun x=>lQ (dW x done 0) ((dW x done 0).length-1) 0)++[lQ [(done.length:Int)] 0 0],ks++[x],?_,⟨?_,?_⟩,?_,?_⟩
  .rw [ayq]
  .rw [azF];exact⟨hk.1,by simp,fun a ha b hb=>by simp at hb;subst hb;rintro rfl;exact hin ha⟩
  .intro y;simp only[axV,ayb,hk.2 y]
  .refine I8 6 0 ks (ks++[x]) done x _ hx ?_ fun y hy=>⟨by simp[hy],fun h=>by rw[List.idxOf_append,if_pos h]⟩;unfold syV;rw[if_pos (by simp),hpx,hix];simp[hB]
  .rw [ayy];congr 1
   .refine ayC fun y hy=>?_;have:¬ x=y:=fun z=>hin (z ▸ hy);rw[rH,if_neg this];simp
   .simp [hpx]
def CV(c:Nat)(l:List Int)(i:Nat):AM.Frame:=[(4,.ptr 0 0 0 0),(5,.ptr 1 0 0 0),(7,.ptr 2 0 0 0),(9,.ptr 3 0 0 0),(10,.ptr 4 0 0 0),(11,.ptr 5 0 0 0),(21,.ro c (.pi .i64 l) 1),(22,.int .i64 l.length),(23,.int .i64 (i:Nat))]
def MG(c c2:Nat)(l:List Int)(b:List UInt8)(a:Int)(hl:l.length<=320)(hf:fine l=true):∃ code,Try.f93.body=some code /\
 ∃ o,Run X T2 93 0 code [(0,.ro c (.pi .i64 l) 1),(1,.ro c2 (.pb b) 2),(2,.int .i64 a)] [] o /\
  (∃ ks,Kq ks l/\o=⟨.ret,[(6,.fn 94 [.ptr 5 0 0 0,.ptr 1 0 0 0,.ptr 0 0 0 0,.ptr 3 0 0 0,.ptr 2 0 0 0,.ptr 4 0 0 0])],rdH c2 b a (bQ l).1 (eY (bQ l).1) ks l (mxL 0 l)⟩):=by
 refine⟨_,rfl,?_⟩;have hc:=fun H=>I9 (H:=H) (a:=.ro c (.pi .i64 l) 1) (l:=l) rfl (by omega);unfold cnt at hc;have hfi:=fun H=>Ja (H:=H) (kN l);have hnl:=kN l;have hfl:(eY (bQ l).1).length=17:=by unfold eY;rw[mD];rfl
 generalize (bQ l).1=n at *;generalize eY n=fi at *;apply FU
 ·(refine⟨0,?_⟩;conv=>lhs;simp[-getElem?_pos,go_sem])
 apply FU
 ·(refine⟨0,?_⟩;conv=>lhs;simp[-getElem?_pos,go_sem,hc,hnl])
 apply FU
 ·(refine⟨0,?_⟩;conv=>lhs;simp[-getElem?_pos,go_sem,hfi,hnl,hfl])
 apply FU
 ·(refine⟨0,?_⟩;conv=>lhs;simp[-getElem?_pos,go_sem])
 apply FU
 ·(refine⟨0,?_⟩;conv=>lhs;simp[-getElem?_pos,go_sem])
 refine aaA (P:=fun o=>∃ ks,Kq ks l/\o=⟨.exit 0,CV c l l.length++[(24,.bool false)],rdH c2 b a n fi ks l (mxL 0 l)⟩) (fr1:=CV c l 0) (H1:=rdH c2 b a n fi [] [] 0) ?_ (Ux (σ:=(List Int×List Int)×(List Int×Int)) (fun t=>t.1.1++t.1.2=l/\Kq t.2.1 t.1.1/\mxL t.2.2 t.1.2=mxL 0 l) (fun t=>CV c l t.1.1.length) (fun t=>rdH c2 b a n fi t.2.1 t.1.1 t.2.2) (fun t o=>∃ ks,Kq ks l/\o=⟨.exit 0,CV c l l.length++[(24,.bool false)],rdH c2 b a n fi ks l (mxL 0 l)⟩) (fun t=>t.1.2.length) ?_ (([],l),([],0)) ⟨rfl,⟨by simp,by simp⟩,rfl⟩) ?_
 .apply Pe;simp[-getElem?_pos,go_sem,CV,rdH,kX,syV,kY,qF,wP]
 .rintro ⟨⟨done,todo⟩,⟨ks,m⟩⟩ ⟨hd,hk,hm⟩;simp only at hd hk hm ⊢;cases todo with
  | nil=>
   have hlen:done.length=l.length:=by rw[<- hd];simp
   have hdl:done=l:=by simpa using hd
   subst hdl;have hm':m=mxL 0 done:=by simpa[mxL]using hm
   refine⟨⟨.exit 0,CV c done done.length++[(24,.bool false)],rdH c2 b a n fi ks done (mxL 0 done)⟩,?_,.inr ⟨by simp,ks,hk,rfl⟩⟩;rw[hm'];apply Run.seq
   ·(refine⟨0,?_⟩;conv=>lhs;simp[-getElem?_pos,go_sem,CV])
   apply Run.bK
   .apply Pe;simp[-getElem?_pos,go_sem,CV]
   .simp
  | cons x todo=>
   have hlt:done.length<l.length:=by rw[<- hd];simp
   have hget:l[done.length]?=some x:=by rw[<- hd];simp
   have rW:(done.length:Int)<(l.length:Int):=by omega
   have e:IntKind.i64.wrap ((done.length:Int)+1)=(done.length:Int)+1:=wrap_i64 (by omega) (by omega);have hx:0<=x/\x<=15:=by have:=ax5.1 hf x (by rw[<- hd];simp);simpa using this
   obtain⟨o2,n2,g2,R',ks',happ,hk',hset,hR⟩:=aaz [kY (.ro c2 (.pb b) 2) 0,kY (.int .i64 a) 0,qF 16 n 0,qF 17 fi 0,wP (kX.map (syV 6 0 ks done true)) 0,kY (.int .i64 m) 0] rfl ks done x hx hk (by omega);refine⟨⟨.normal,CV c l (done++[x]).length,rdH c2 b a n fi ks' (done++[x]) (if m<x then x else m)⟩,?_,.inl ⟨((done++[x],todo),(ks',if m<x then x else m)),⟨by simpa using hd,hk',by rw[<- hm];rfl⟩,rfl,fun _ h=>h,by simp⟩⟩;have hS:(kX.map (syV 6 0 ks done true))[x.toNat]?=some (syV 6 0 ks done true x):=by rw[axP,EZ hx];rfl
   have hSl:(kX.map (syV 6 0 ks done true)).length=16:=by simp[kX]
   unfold rdH;rw[<- hset,<- hR];generalize hA:kX.map (syV 6 0 ks done true)=A at *;generalize syV 6 0 ks done true x=v at *;generalize ks.map (fun x=>lQ (dW x done 0) ((dW x done 0).length-1) 0)=R at *;simp only[kY,qF,wP,ayj,ax8]at happ ⊢;have hx16:x<16:=by omega
   have hx0:=hx.1;apply Run.seq
   ·(refine⟨0,?_⟩;conv=>lhs;simp[-getElem?_pos,go_sem,CV,rW])
   apply Run.seq
   ·(refine⟨0,?_⟩;conv=>lhs;simp[-getElem?_pos,go_sem])
   have hfr:∀ i:Nat,CV c l i=[(4,.ptr 0 0 0 0),(5,.ptr 1 0 0 0),(7,.ptr 2 0 0 0),(9,.ptr 3 0 0 0),(10,.ptr 4 0 0 0),(11,.ptr 5 0 0 0),(21,.ro c (.pi .i64 l) 1),(22,.int .i64 l.length),(23,.int .i64 (i:Nat))]:=fun _=>rfl;apply Run.seq (fr':=CV c l done.length) (H':=[some { p:=.pc [.ro c2 (.pb b) 2],g:=0,cap:=some 1,z:=1,row:=false,ids:=true,tg:=0 },some { p:=.pc [.int .i64 a],g:=0,cap:=some 1,z:=1,row:=false,ids:=true,tg:=0 },some { p:=.pi .i64 n,g:=0,cap:=some 16,z:=1,row:=false,ids:=false,tg:=0 },some { p:=.pi .i64 fi,g:=0,cap:=some 17,z:=1,row:=false,ids:=false,tg:=0 },some { p:=.pc (A.set x.toNat (.sl o2 0 n2 g2)),g:=0,cap:=some 16,z:=1,row:=false,ids:=true,tg:=0 },some { p:=.pc [.int .i64 (if m<x then x else m)],g:=0,cap:=some 1,z:=1,row:=false,ids:=true,tg:=0 }]++R')
   .apply Run.block
    .apply Run.seq
     ·(refine⟨0,?_⟩;conv=>lhs;simp[-getElem?_pos,go_sem,hget,hlt])
     apply Run.seq (fr':=[(4,.ptr 0 0 0 0),(5,.ptr 1 0 0 0),(7,.ptr 2 0 0 0),(9,.ptr 3 0 0 0),(10,.ptr 4 0 0 0),(11,.ptr 5 0 0 0),(13,.int .i64 x),(21,.ro c (.pi .i64 l) 1),(22,.int .i64 l.length),(23,.int .i64 (done.length:Nat))]) (H':=[some { p:=.pc [.ro c2 (.pb b) 2],g:=0,cap:=some 1,z:=1,row:=false,ids:=true,tg:=0 },some { p:=.pc [.int .i64 a],g:=0,cap:=some 1,z:=1,row:=false,ids:=true,tg:=0 },some { p:=.pi .i64 n,g:=0,cap:=some 16,z:=1,row:=false,ids:=false,tg:=0 },some { p:=.pi .i64 fi,g:=0,cap:=some 17,z:=1,row:=false,ids:=false,tg:=0 },some { p:=.pc (A.set x.toNat (.sl o2 0 n2 g2)),g:=0,cap:=some 16,z:=1,row:=false,ids:=true,tg:=0 },some { p:=.pc [.int .i64 m],g:=0,cap:=some 1,z:=1,row:=false,ids:=true,tg:=0 }]++R')
     .apply Pe;simp[-getElem?_pos,go_sem,hS,hx0,hx16,happ,bsI,hSl]
     .apply Pe;simp[-getElem?_pos,go_sem,kP,hfr]
    .simp
   .apply Pe;simp[-getElem?_pos,go_sem,e,hfr]
 .rintro o ⟨ks,hk,rfl⟩;refine .inl ⟨_,_,rfl,_,?_,ks,hk,rfl⟩;have hsc:scalars [.ptr 5 0 0 0,.ptr 1 0 0 0,.ptr 0 0 0 0,.ptr 3 0 0 0,.ptr 2 0 0 0,.ptr 4 0 0 0]=true:=rfl;refine⟨0,?_⟩;simp[-getElem?_pos,go_sem,CV,hsc]
end Go.Proofs.Ytbodincpjijdiaa
