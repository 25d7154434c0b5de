/- SC to N3: texts of this claim, one behind the other; what each shows stands at its head. -/
import Derived.Test.YtbodincpjijdiaaMg9
set_option linter.defProp false
set_option linter.unusedSimpArgs false
set_option linter.unusedVariables false
set_option maxRecDepth 100000
set_option maxHeartbeats 8000000
namespace Go.Proofs.Ytbodincpjijdiaa
open Go.AM
def Ec(mo th:Int):Prop:=mo<1\/16777215<mo\/th<0\/16777215<th
instance (mo th:Int):Decidable (Ec mo th):=by unfold Ec;infer_instance
def sqR(b:List UInt8)(s:Nat)(mo th:Int):List UInt8×Nat×Int:=if Ec mo th then([],0,2)else((sqG mo.toNat th.toNat b.length b s []).1,(sqG mo.toNat th.toNat b.length b s []).2,0)
def sqX(r:List UInt8×Nat×Int)(fr:AM.Frame)(E:AM.Heap):Prop:=∃ o g ob,aB fr 8=.sl o 0 r.1.length g/\aB fr 9=.int .u8 (r.2.1:Nat)/\aB fr 10=.int .i64 r.2.2/\E[o]?=some (some ob)/\Rw (.pb r.1) g ob
def abk(mo th f s:Nat)(o:List UInt8):sqG mo th f [] s o=(o,s):=by
 cases f with
 | zero=>rfl
 | succ f=>unfold sqG;simp
def EL:AM.Obj:=⟨.pb [],0,none,0,true,false,0⟩
def RI{s th:Nat}{p:List UInt8}:(sqH s (sqP th p)).length<=7+p.length:=by
 have:=(JX (th:=th) (p:=p)).1;unfold sqH;simp only[axR,kU,azp];omega
section
variable {c:Nat}{B:List UInt8}
def mk7{n:Nat}(hn:n<=1000000)(H:AM.Heap):fP X H 22 (.int .i64 0) (.int .i64 (n:Nat))=some (.sl H.length 0 0 0,H++[some ⟨.pb [],0,some n,1,true,false,0⟩]):=by
 have hz:∀ n,kF X 5 n=some (.pb (List.replicate n 0)):=fun n=>by simp[kF,eF,scalars,scalar,aC,ids,aW,tags]
 have h0:(0:Int)<=n:=by omega
 have h1:(n:Int)<=9223372036854775807:=by omega
 have h2:(n:Int)<=140737488355328:=by omega
 simp[fP,hz,h0,h1,h2,rowOf]
def aik{m s mo th n7:Nat}{nq ob0:AM.Obj}(w7:IntKind.i64.wrap ((B.length:Int)+7)=(n7:Int))(hM:fP X [some nq] 22 (.int .i64 0) (.int .i64 (n7:Nat))=some (.sl 1 0 0 0,[some nq,some ob0])):∃ code,Try.f10.body.bind (ay [1,1,0])=some code/\Run X (evT X) 10 m code ([(0,.ro c (.pb B) 1),(1,.int .u8 (s:Nat)),(2,.int .i64 (mo:Nat)),(3,.int .i64 (th:Nat)),(29,.bool false)]) [some nq] ⟨.normal,qH c B s mo th (.sl 1 0 0 0),[some nq,some ob0]⟩:=by
 refine⟨_,rfl,?_⟩;simp only[qH];generalize hL:B.length=L at *;apply Pe;simp[-getElem?_pos,go_sem,hL,w7,hM,ak]
def NC{m s:Nat}{mo th:Int}(h:Ec mo th):∃ code,Try.f10.body=some code/\aj (lG (sqX ([],0,2))) X (evT X) 10 m code [(0,.ro c (.pb B) 1),(1,.int .u8 (s:Nat)),(2,.int .i64 mo),(3,.int .i64 th)] []:=by
 refine⟨_,rfl,?_⟩;refine aj.of (o:=⟨.ret,[(8,.sl 1 0 0 0),(9,.int .u8 0),(10,.int .i64 2)],[some EL,some EL]⟩) ?_ ⟨rfl,1,0,EL,rfl,rfl,rfl,rfl,⟨rfl,rfl,rfl,rfl,rfl⟩⟩;refine⟨0,?_⟩;unfold Ec at h;simp only[EL];by_cases h1:mo<1
 .simp [-getElem?_pos,go_sem,h1,ak,rowOf,FZ]
 .by_cases h2:16777215<mo
  .simp [-getElem?_pos,go_sem,h1,h2,ak,rowOf,FZ]
  .by_cases h3:th<0
   .simp [-getElem?_pos,go_sem,h1,h2,h3,ak,rowOf,FZ]
   .have h4:16777215<th:=by omega
    simp[-getElem?_pos,go_sem,h1,h2,h3,h4,ak,rowOf,FZ]
def La{m s mo th:Nat}(hc:c=0->B=[])(hb:B.length<=10000)(hp:min B.length mo<=1400)(hs:s<256)(h1:1<=mo)(h2:mo<=16777215)(h3:th<=16777215):∃ code,Try.f10.body=some code/\aj (lG (sqX ((sqG mo th B.length B s []).1,(sqG mo th B.length B s []).2,0))) X (evT X) 10 m code [(0,.ro c (.pb B) 1),(1,.int .u8 (s:Nat)),(2,.int .i64 (mo:Nat)),(3,.int .i64 (th:Nat))] []:=by
 refine⟨_,rfl,?_⟩;have a1:¬ (mo:Int)<1:=by omega
 have a2:¬ (16777215:Int)<(mo:Int):=by omega
 have a3:¬ (th:Int)<0:=by omega
 have a4:¬ (16777215:Int)<(th:Int):=by omega
 apply aj.seq (fr':=[(0,.ro c (.pb B) 1),(1,.int .u8 (s:Nat)),(2,.int .i64 (mo:Nat)),(3,.int .i64 (th:Nat))]) (H':=[some EL])
 .simp only[EL];apply Pe;simp[-getElem?_pos,go_sem,ak,rowOf,FZ]
 apply aj.assoc;apply aj.seq (fr':=[(0,.ro c (.pb B) 1),(1,.int .u8 (s:Nat)),(2,.int .i64 (mo:Nat)),(3,.int .i64 (th:Nat)),(29,.bool false)]) (H':=[some EL])
 .generalize (mo:Int)=mI at *;generalize (th:Int)=tI at *;apply Pe;simp[-getElem?_pos,go_sem,a1,a2,a3,a4]
 apply aj.seq (fr':=[(0,.ro c (.pb B) 1),(1,.int .u8 (s:Nat)),(2,.int .i64 (mo:Nat)),(3,.int .i64 (th:Nat)),(29,.bool false)]) (H':=[some EL])
 .exact Run.cond (d:=false) (by simp[aJ,aB]) ⟨0,rfl⟩
 have hM:fP X [some EL] 22 (.int .i64 0) (.int .i64 (B.length+7:Nat))=some (.sl 1 0 0 0,[some EL,some ⟨.pb [],0,some (B.length+7),1,true,false,0⟩]):=mk7 (n:=B.length+7) (by omega) [some EL];have w7:IntKind.i64.wrap ((B.length:Int)+7)=((B.length+7:Nat):Int):=by rw[wrap_i64 (by omega) (by omega)];omega
 have hw0:Rw (.pb []) 0 (⟨.pb [],0,some (B.length+7),1,true,false,0⟩:AM.Obj):=⟨rfl,rfl,rfl,rfl,rfl⟩;generalize (⟨.pb [],0,some (B.length + 7),1,true,false,0⟩:AM.Obj)=ob0 at *;generalize hnq:EL=nq at *;have hob:([some nq,some ob0]:AM.Heap)[1]?=some (some ob0):=rfl;apply aj.seq (piece (aik (m:=m) (c:=c) (B:=B) (s:=s) (mo:=mo) (th:=th) w7 hM) _ rfl);clear hM w7;generalize ([some nq,some ob0]:AM.Heap)=E0 at *;refine aj.andThen (P:=fun fr E=>∃ o g ob l s',aB fr 11=.sl o 0 l.length g/\aB fr 1=.int .u8 (s':Nat)/\E[o]?=some (some ob)/\Rw (.pb l) g ob/\sqG mo th B.length B s []=(l,s')) ?_ ?_
 .apply aj.block;refine aj.jP (I:=fun k fr E=>∃ B' s' o g ob l,B'.length<=B.length/\B'.length<=k/\s'<256/\(c=0->B'=[])/\l.length+8*B'.length<=80000/\fr=qH c B' s' mo th (.sl o 0 l.length g)/\E[o]?=some (some ob)/\Rw (.pb l) g ob/\sqG mo th k B' s' l=sqG mo th B.length B s []) ?_ (k:=B.length) ⟨B,s,1,0,ob0,[],axO _,axO _,hs,hc,by rw[ax3];omega,rfl,hob,hw0,rfl⟩;rintro k fr E ⟨B',s',o,g,ob,l,hBB,hk,hs',hc',hl,rfl,ho,hw,he⟩;by_cases hB:B'.length=0
  .have hB0:B'=[]:=ayk hB;subst hB0;rw[abk]at he;refine aj.of (o:=⟨.exit 0,qH c [] s' mo th (.sl o 0 l.length g)++[(36,.bool false)],E⟩) ?_ (.inr ⟨by simp,rfl,o,g,ob,l,s',by simp[qH,aB],by simp[qH,aB],ho,hw,he.symm⟩);refine⟨0,?_⟩;simp only[qH];generalize l.length=N at *;simp[-getElem?_pos,go_sem]
  .cases k with
   | zero=>omega
   | succ k=>
    have hBp:0<B'.length:=by omega
    have hBI:(0:Int)<(B'.length:Int):=by omega
    rw[sqG,if_neg hB]at he;have hc0:c≠0:=fun h=>hB (by rw[hc' h];rfl);have ht:(B'.take mo).length+(B'.drop mo).length=B'.length:=by rw[<- axR,azq]
    have ht1:0<(B'.take mo).length:=by rw[ayc];omega
    have hHl:=RI (s:=s') (th:=th) (p:=B'.take mo);obtain⟨o2,g2,ob2,E2,q1,q2,q3⟩:=YE (m:=m) (th:=th) hc0 (by omega) (by omega) (by omega) hs' h2 ho hw ht1;refine aj.of (o:=⟨.normal,_,E2⟩) ?_ (.inl ⟨rfl,k,by omega,B'.drop mo,(s'+1)%256,o2,g2,ob2,l++sqH s' (sqP th (B'.take mo)),by omega,by omega,by omega,fun h=>absurd h hc0,by rw[axR];omega,rfl,q1,q2,he⟩);apply Run.seq (fr':=qH c B' s' mo th (.sl o 0 l.length g)++[(36,.bool true)]) (H':=E)
    .apply Run.seq (fr':=qH c B' s' mo th (.sl o 0 l.length g)++[(36,.bool true)]) (H':=E)
     .simp only[qH];generalize l.length=N at *;generalize hL:B'.length=L at *;apply Pe;simp[-getElem?_pos,go_sem,hL,hBI,hBp]
     .exact Run.cond (d:=true) (by simp[qH,aJ,aB]) ⟨0,rfl⟩
    .exact piece q3 _ rfl
 .rintro fr E ⟨o,g,ob,l,s',g1,g2,g3,g4,g5⟩;rw[g5];refine aj.of (o:=⟨.ret,[(8,.sl o 0 l.length g),(9,.int .u8 (s':Nat)),(10,.int .i64 0)],E⟩) ?_ ⟨rfl,o,g,ob,rfl,rfl,rfl,g3,g4⟩;refine⟨0,?_⟩;generalize l.length=N at *;simp[-getElem?_pos,go_sem,g1,g2,ak]
def Iz{m s:Nat}{mo th:Int}(hc:c=0->B=[])(hb:B.length<=10000)(hp:B.length<=1400\/mo<=1400)(hs:s<256):∃ code,Try.f10.body=some code/\aj (lG (sqX (sqR B s mo th))) X (evT X) 10 m code [(0,.ro c (.pb B) 1),(1,.int .u8 (s:Nat)),(2,.int .i64 mo),(3,.int .i64 th)] []:=by
 unfold sqR;by_cases h:Ec mo th
 .rw [if_pos h];exact NC h
 .rw [if_neg h];unfold Ec at h;obtain⟨m1,rfl⟩:∃ k:Nat,mo=(k:Nat):=⟨mo.toNat,by omega⟩;obtain⟨t1,rfl⟩:∃ k:Nat,th=(k:Nat):=⟨th.toNat,by omega⟩;rw[ayA,ayA];exact La hc hb (by omega) hs (by omega) (by omega) (by omega)
def GK{H:AM.Heap}{a:AV}{s:Nat}{mo th:Int}(h:Byt H a B)(hb:B.length<=10000)(hp:B.length<=1400\/mo<=1400)(hs:s<256):∃ ob,Rw (.pb (sqR B s mo th).1) 0 ob/\evT X 10 [a,.int .u8 (s:Nat),.int .i64 mo,.int .i64 th] H=some (.tup [.sl H.length 0 (sqR B s mo th).1.length 0,.int .u8 ((sqR B s mo th).2.1:Nat),.int .i64 (sqR B s mo th).2.2],H++[some ob]):=by
 have h3:=dX (C:=X) (f:=10) (i:=3) (a:=.int .i64 th) (H:=H) rfl rfl (dR 4);have h2:=dX (C:=X) (f:=10) (i:=2) (a:=.int .i64 mo) (H:=H) rfl rfl h3;have h1:=dX (C:=X) (f:=10) (i:=1) (a:=.int .u8 (s:Nat)) (H:=H) rfl rfl h2;obtain⟨c,p,xl,hpb,hc,hx⟩:=sD (C:=X) (f:=10) (i:=0) rfl h h1;obtain⟨code,hcode,out,⟨ho,o,g,ob,q1,q2,q3,q4,q5⟩,hrun⟩:=Iz (m:=0) (c:=c) (mo:=mo) (th:=th) hc hb hp hs;obtain⟨ob',r1,r2⟩:=Ev1.Kz (C:=X) (H:=H) (bC X) (n:=(sqR B s mo th).1.length) (l:=(sqR B s mo th).1) (rest:=[.int .u8 ((sqR B s mo th).2.1:Nat),.int .i64 (sqR B s mo th).2.2]) Try.func10 hcode hx (by simp[aC,ids,hpb.ids]) (by simp[dA]) rfl rfl rfl (by
  rw[af8,coD hpb];refine⟨out,⟨ho,o,g,ob,?_,q4,q5⟩,hrun⟩;show aT X out.fr out.H [.tmp 8,.tmp 9,.tmp 10]=_;simp[aT,q1,q2,q3])
 exact⟨ob',r1,dI (by simpa[aG,dB]using r2)⟩
end
def fK(m nx:Nat)(v:AV)(τ:Nat):AM.Obj:=⟨.pc [.int .i64 (m:Nat),.int .u8 (nx:Nat),v,.int .i64 0],0,some 4,1,false,true,τ⟩
def SlQ(t:Nat)(H:AM.Heap)(oa:Option (Nat×Nat))(v:AV)(L:List UInt8)(off:Nat):Prop:=match oa with
 | none=>L=[]/\off=0/\∃ τ,(τ=0\/τ=t)/\v=.ro 0 .pn τ
 | some (a,g)=>off<=L.length/\v=.sl a off (L.length-off) g/\∃ τ ob,(τ=0\/τ=t)/\H[a]?=some (some ob)/\RwT (.pb L) g τ ob
structure QV (m t:Nat) (H:AM.Heap) (o:Nat) (oa:Option (Nat×Nat)) (nx:Nat) (L:List UInt8) (off:Nat):Prop where
 bx:∃ v τ,(τ=0\/τ=t)/\H[o]?=some (some (fK m nx v τ))/\SlQ t H oa v L off
 ne:∀ a g,oa=some (a,g)->a≠o
def qS(m nx:Nat)(L:List UInt8)(off:Nat):Bool->List AM.Obj
 | false=>[fK m nx (.ro 0 .pn 0) 0]
 | true=>[fK m nx (.sl 1 off (L.length-off) 0) 0,rwF (.pb L)]
def qπ(o:Nat)(oa:Option (Nat×Nat)):List (Nat×Nat):=(o,0)::oa.toList
section
variable {m nx t:Nat}{H:AM.Heap}{o off:Nat}{oa:Option (Nat×Nat)}{L:List UInt8}
def TF(r:Bool):OkS (qS m nx L off r):=by
 intro k ob0 hk x hx;cases r
 .match k,hk with
  | 0,hk=>
   obtain rfl:=axN hk;simp[fK,ids,aC]at hx
  | k+1,hk=>simp[qS]at hk
 .match k,hk with
  | 0,hk=>
   obtain rfl:=axN hk;simp[fK,ids,aC]at hx;subst hx;simp[qS]
  | 1,hk=>
   obtain rfl:=axN hk;simp[rwF,ids]at hx
  | k+2,hk=>simp[qS]at hk
def sK(r:Bool):(qS m nx L off r).length=if r then 2 else 1:=by cases r<;>rfl
def YX(r:Bool):reach ((qS m nx L off r).map some) aA [0] []=List.range (qS m nx L off r).length:=by
 cases r
 .exact kV rfl (by simp[fK,ids,aC])
 .show reach _ (99996+1+1+1+1) [0] []=[0,1];simp[qS,fK,rwF,reach,ids,aC]
def ail(r:Bool):wtF [] 0 (qS m nx L off r)<=2:=by
 cases r<;>simp[qS,wtF,kids,fK,rwF,ids,aC]
def abl(r:Bool)(h:oa.isSome=r):(qπ o oa).length=(qS m nx L off r).length:=by
 subst h;rw[sK];cases oa<;>rfl
def QV.img(h:QV m t H o oa nx L off):Img t H (qπ o oa) (qS m nx L off oa.isSome):=by
 obtain⟨⟨v,τ,hτ,h0,ho⟩,hne⟩:=h;cases oa with
 | none=>
  obtain⟨rfl,rfl,τ2,hτ2,rfl⟩:=ho;refine⟨rfl,?_,?_⟩
  .intro j k oj gj ok gk h1 h2 _;have:=eX h1;have:=eX h2;simp[qπ]at *;omega
  .intro k ob0 hk
   match k,hk with
   | k+1,hk=>simp[qS]at hk
   | 0,hk=>
    obtain rfl:=axN hk;refine⟨o,0,_,rfl,h0,⟨?_,rfl,rfl,rfl,fun _=>⟨rfl,rfl,rfl⟩,hτ,?_⟩⟩
    .simp [fK,ren,bU,tz]
    .intro k hk;simp[fK,tags,aW]at hk;rw[hk];exact hτ2
 | some x=>
  obtain⟨a,g⟩:=x;obtain⟨hof,rfl,τ2,ob,hτ2,ha,hw⟩:=ho;have hao:=hne a g rfl;refine⟨rfl,?_,?_⟩
  .intro j k oj gj ok gk h1 h2 e
   match j,k,h1,h2 with
   | 0,0,_,_=>rfl
   | 1,1,_,_=>rfl
   | 0,1,h1,h2=>simp[qπ]at h1 h2;omega
   | 1,0,h1,h2=>simp[qπ]at h1 h2;omega
   | j+2,_,h1,_=>simp[qπ]at h1
   | 0,k+2,_,h2=>simp[qπ]at h2
   | 1,k+2,_,h2=>simp[qπ]at h2
  .intro k ob0 hk
   match k,hk with
   | 0,hk=>
    obtain rfl:=axN hk;refine⟨o,0,_,rfl,h0,⟨?_,rfl,rfl,rfl,fun _=>⟨rfl,rfl,rfl⟩,hτ,?_⟩⟩
    .simp [fK,ren,bU,tz,gQ,idN,qπ]
    .intro k hk;simp[fK,tags,aW]at hk
   | 1,hk=>
    obtain rfl:=axN hk;refine⟨a,g,ob,rfl,ha,⟨by rw[hw.p];rfl,hw.g,hw.row,hw.ids,(fun h=>by cases h),by rw[hw.tg];exact hτ2,?_⟩⟩;intro k hk;rw[hw.p]at hk;simp[tags]at hk
   | k+2,hk=>simp[qS]at hk
def QV.nP{π:List (Nat×Nat)}{r:Bool}(h:Img t H π (qS m nx L off r))(h0:π[0]?=some (o,0))(hr:r=false->L=[]/\off=0)(hof:off<=L.length):∃ oa,QV m t H o oa nx L off/\π=qπ o oa/\oa.isSome=r:=by
 obtain⟨o',g',ob,q1,q2,q3⟩:=h.ob 0 _ (by cases r<;>rfl:(qS m nx L off r)[0]?=some (fK m nx (if r then .sl 1 off (L.length-off) 0 else .ro 0 .pn 0) 0));rw[h0]at q1;simp only[axH,axJ]at q1;obtain⟨rfl,rfl⟩:=q1;obtain⟨_,p,τ,rfl,hτ,hp,htp⟩:=q3.box;simp only[ren,bU]at hp;obtain⟨l1,rfl,k1⟩:=wV hp;obtain⟨x1,l2,rfl,e1,k2⟩:=fM k1;obtain⟨x2,l3,rfl,e2,k3⟩:=fM k2;obtain⟨x3,l4,rfl,e3,k4⟩:=fM k3;obtain⟨x4,l5,rfl,e4,k5⟩:=fM k4;obtain rfl:=qg k5;obtain rfl:=nR e1;obtain rfl:=nR e2;obtain rfl:=nR e4;cases r with
 | false=>
  simp only[axZ,if_false,ren]at e3;obtain⟨τ2,rfl⟩:=wW e3;have hτ2:τ2=0\/τ2=t:=htp τ2 (by simp[tags,aW]);have hl:=h.len;refine⟨none,⟨⟨_,τ,hτ,q2,(hr rfl).1,(hr rfl).2,τ2,hτ2,rfl⟩,fun a g h=>by cases h⟩,?_,rfl⟩
  match π,hl,h0 with
  | [x],_,h0=>simp at h0;subst h0;rfl
 | true=>
  obtain⟨a,g,ob,p1,p2,p3⟩:=h.ob 1 _ rfl;simp only[if_true,ren,gQ,p1]at e3;obtain rfl:=CB e3;have hl:=h.len;have hne:a≠o:=fun e=>by have:=h.nd 1 0 a g o 0 p1 h0 e;omega
  obtain⟨w1,w2⟩:=p3.row' rfl;refine⟨some (a,g),⟨⟨_,τ,hτ,q2,hof,rfl,ob.tg,ob,w2,p2,w1⟩,fun a' g' h=>by cases h;exact hne⟩,?_,rfl⟩
  match π,hl,h0,p1 with
  | [x,y],_,h0,p1=>simp at h0 p1;subst h0 p1;rfl
def QV.nil(h:QV m t H o oa nx L off):oa.isSome=false->L=[]/\off=0:=by
 intro h1;cases oa with
 | some a=>cases h1
 | none=>obtain⟨⟨v,τ,_,_,ho⟩,_⟩:=h;exact⟨ho.1,ho.2.1⟩
def QV.le(h:QV m t H o oa nx L off):off<=L.length:=by
 obtain⟨⟨v,τ,_,_,ho⟩,_⟩:=h;cases oa with
 | none=>rw[ho.2.1];exact ayF _
 | some x=>exact ho.1
end
structure KpQ (H H':AM.Heap) (o:Nat) (oa oa':Option (Nat×Nat)):Prop where
 len:H.length<=H'.length
 same:∀ a g,oa=some (a,g)->∃ g',oa'=some (a,g')
 new:∀ a g,oa=none->oa'=some (a,g)->H.length<=a
 rest:∀ j,j<H.length->j≠o->(∀ a g,oa=some (a,g)->j≠a)->H'[j]?=H[j]?
section
variable {m nx t:Nat}{H:AM.Heap}{o off:Nat}{oa:Option (Nat×Nat)}{L:List UInt8}
def VX{f n:Nat}{fn:Func}{code:Code}{xs ys:List AV}{Q:Nat->List UInt8->Nat->AV->List AV->Prop}(hF:X.P.funcs[f]?=some fn)(hb:fn.body=some code)(hrw:X.rw f 0=false)(h:QV m t H o oa nx L off)
 (hA:∀ K,gG X f H (qπ o oa) K 1 xs ys)(hi:aC ys=[])(hn:xs.length+2=n)(hng:n<dA)
 (run:∀ mm E oa1,oa1.isSome=oa.isSome->(∀ a g,oa1=some (a,g)->a=1/\g=0)->E.length=(if oa.isSome then 2 else 1)->QV m n E 0 oa1 nx L off->∃ code,fn.body=some code/\aj (jO fun fr E'=>∃ nx' L' off' oa' l ex ps w0,aT X fr E' fn.results.toList=some l/\QV m n E' 0 oa' nx' L' off'/\(∀ a g,oa1=some (a,g)->∃ g',oa'=some (a,g')) /\
  eG n E' ex ps/\(∀ p∈ps,ids p=[]/\tags p=[])/\((qπ 0 oa'++ex).map Prod.fst).Nodup/\(ids w0).length<=1000/\(∀ k∈ids w0,k<(qπ 0 oa'++ex).length)/\(∀ k,(qπ 0 oa').length<=k->k<(qπ 0 oa'++ex).length->k∈ids w0)/\(∀ k∈tags w0,k=0\/k=n)/\aG l=ren (gQ (qπ 0 oa'++ex)) (fun t=>t) w0/\Q nx' L' off' w0 ps)
  X (evT X) f mm code (numbered 0 (coerce X (.ptr 0 0 0 0::ys) (aI X f))) E) :
 ∃ H' oa' nx' L' off' w0 ex ps τf,evT X f (.ptr o 0 0 0::xs) H=some (ren (gQ (qπ o oa'++ex)) τf w0,H')/\(∀ k∈tags w0,τf k=0\/τf k=t)/\QV m t H' o oa' nx' L' off'/\eG t H' ex ps/\(∀ x∈ex,H.length<=x.1)/\((qπ o oa'++ex).map Prod.fst).Nodup/\Q nx' L' off' w0 ps/\KpQ H H' o oa oa'/\∀ k∈ids w0,k<(qπ o oa'++ex).length:=by
 have hI:=h.img;have hK:0<(qS m nx L off oa.isSome).length:=by rw[sK];split<;>omega
 have hA2:gG X f H (qπ o oa) (qS m nx L off oa.isSome).length 0 (.ptr o 0 0 0::xs) (.ptr 0 0 0 0::ys):=gG.ptr hI hrw rfl hK (hA _);obtain⟨π'',S',w0,H',τf,hE,hτf,hI',hok',hid,⟨nx',L',off',ps,r',hS',hr',ar1,hQ,hf,hmono⟩,hlen,hfix,hnew,hrest⟩:=Ev1.img (C:=X) (T:=evT X) (f:=f) (H:=H) (n:=n) (ys:=.ptr 0 0 0 0::ys)
  (Q:=fun S' w0=>∃ nx' L' off' ps r',S'=qS m nx' L' off' r'++ps.map rwF/\(r'=false->L'=[]/\off'=0)/\off'<=L'.length/\Q nx' L' off' w0 ps/\(∀ p∈ps,ids p=[]/\tags p=[])/\(oa.isSome=true->r'=true)) (bC X) hF hb hI (TF _) hA2
  (by rw[show aC (AV.ptr 0 0 0 0::ys)=[0]by simp[aC,ids,hi]];exact YX _) (by simp;omega) hng (by
   intro E hEl hEI;obtain⟨oa1,hV,hπ1,hs1⟩:=QV.nP hEI (by rw[qL,if_pos hK]) h.nil h.le;have ha1:∀ a g,oa1=some (a,g)->a=1/\g=0:=by
    intro a g ha;have h1:(pi0 (qS m nx L off oa.isSome).length)[1]?=some (a,g):=by rw[hπ1,ha];rfl
    rw[qL]at h1;split at h1
    .simp at h1;omega
    .cases h1
   obtain⟨nM,hc2,out,hout,hrun⟩:=run (qS m nx L off oa.isSome).length E oa1 hs1 ha1 (by rw[hEl,sK]) hV;rw[hb]at hc2;obtain rfl:=axN hc2;refine⟨out,⟨hout.1,?_⟩,hrun⟩;obtain⟨nx',L',off',oa',l,ex,ps,w0,hr,hV',hm,D5,hf,hnd,hw0,hw1,hw2,hw3,hw4,hQ⟩:=hout.2;have hI2:=hV'.img.append (TF _) D5 hf (by rw[<- ayy];exact hnd);have hlr:=hV'.img.len;have Wp:=D5.len;have JZ:(qS m nx' L' off' oa'.isSome++ps.map rwF).length=(qπ 0 oa'++ex).length:=by simp[Wp,hlr]
   have hmo:oa.isSome=true->oa'.isSome=true:=by intro hq;rw[<- hs1]at hq;obtain⟨⟨a,g⟩,ha⟩:=ayn.1 hq;obtain⟨g',hg'⟩:=hm a g ha;rw[hg'];rfl
   have ado:(qS m nx L off oa.isSome).length<=(qS m nx' L' off' oa'.isSome).length:=by
    rw[sK,sK];cases hx:oa.isSome
    .simp;split<;>omega
    .rw [hmo hx];simp
   have hfuel:(List.range (qS m nx L off oa.isSome).length++ids w0).length+wtF [] 0 (qS m nx' L' off' oa'.isSome++ps.map rwF)<=aA:=by
    rw[ES,Ak];have h1:=ail (m:=m) (nx:=nx') (off:=off') (L:=L') oa'.isSome;have h2:(qS m nx L off oa.isSome).length<=2:=by rw[sK];split<;>omega
    simp only[axR,azV];show _<=100000;omega
   refine⟨qπ 0 oa'++ex,qS m nx' L' off' oa'.isSome++ps.map rwF,w0,l,hr,hw4,hI2,(TF _).rows hf,hw3,fun k hk=>by rw[JZ];exact hw1 k hk,by simp;omega,?_,?_,?_,nx',L',off',ps,oa'.isSome,rfl,hV'.nil,hV'.le,hQ,hf,hmo⟩
   .intro k hk;rw[sK]at hk
    match k,hk with
    | 0,_=>exact⟨0,rfl⟩
    | 1,hk=>
     have hq:oa1.isSome=true:=by
      rw[hs1];split at hk
      .assumption
      .omega
     obtain⟨⟨a,g⟩,ha⟩:=ayn.1 hq;obtain⟨g',hg'⟩:=hm a g ha;rw[(ha1 a g ha).1]at hg';exact⟨g',by rw[hg'];rfl⟩
    | k+2,hk=>split at hk<;>omega
   .intro k ob ob' h1 h2;have hkl:=eX h1;rw[axL (by omega)]at h2;cases hx:oa.isSome<;>cases hy:oa'.isSome<;>rw[hx]at h1<;>rw[hy]at h2
    all_goals
     match k,h1,h2 with
     | 0,h1,h2=>
      have e1:=axN h1;have e2:=axN h2;subst e1 e2;rfl
     | 1,h1,h2=>first|(simp[qS]at h1;done)|(simp[qS]at h2;done)|(
      have e1:=axN h1;have e2:=axN h2;subst e1 e2;rfl)
     | k+2,h1,h2=>simp[qS]at h1
   .intro k hk1 hk2;by_cases hkr:k<(qS m nx' L' off' oa'.isSome).length
    .have hk:k=1/\oa'.isSome=true:=by
      rw[sK]at hkr hk1;cases hx:oa'.isSome
      .rw [hx]at hkr;simp at hkr;split at hk1<;>omega
      .rw [hx]at hkr;simp at hkr;split at hk1
       .omega
       .exact ⟨by omega,rfl⟩
     obtain⟨rfl,hy⟩:=hk;refine Cm hfuel (x:=0) (ob:=fK m nx' (.sl 1 off' (L'.length-off') 0) 0) (oU hfuel (ayW _ (ayh.2 hK)) (by simp;omega)) ?_ (by simp[kids,fK,ids,aC]) (by simp;omega);rw[axL (by omega),hy];rfl
    .refine oU hfuel (ay2 _ ?_) hk2;exact hw2 k (by rw[hlr];omega) (by rw[<- JZ];exact hk2))
 subst hS';obtain⟨g0,hg0⟩:=hfix 0 o 0 rfl;have hI3:=hI'.pre (TF r');have hRw:=hI'.rows hf;have hrl:0<(qS m nx' L' off' r').length:=by rw[sK];split<;>omega
 have PD:g0=0:=by obtain⟨o',g',ob,q1,q2,q3⟩:=hI3.ob 0 _ (by cases r'<;>rfl:(qS m nx' L' off' r')[0]?=some (fK m nx' (if r' then .sl 1 off' (L'.length-off') 0 else .ro 0 .pn 0) 0));rw[ayD,if_pos hrl,hg0]at q1;simp only[axH,axJ]at q1;obtain⟨_,rfl⟩:=q1;exact q3.box.1
 subst PD;obtain⟨oa',hV',Md,hs'⟩:=QV.nP hI3 (by rw[ayD,if_pos hrl];exact hg0) hr' ar1;have hsp:π''=qπ o oa'++π''.drop (qS m nx' L' off' r').length:=by rw[<- Md,azq]
 generalize hex:π''.drop (qS m nx' L' off' r').length=ex at *;rw[hsp]at hE;have hql:=abl (m:=m) (nx:=nx') (off:=off') (L:=L') (o:=o) r' hs';have ado:(qS m nx L off oa.isSome).length<=(qS m nx' L' off' r').length:=by
  rw[sK,sK];cases hx:oa.isSome
  .simp;split<;>omega
  .rw [hmono hx];simp
 have hx1:∀ a g,oa'=some (a,g)->π''[1]?=some (a,g):=by intro a g ha;rw[hsp,ha];rfl
 refine⟨H',oa',nx',L',off',w0,ex,ps,τf,dI hE,hτf,hV',hRw,?_,?_,hQ,⟨hlen,?_,?_,?_⟩,fun k hk=>by rw[<- hsp,hI'.len];exact hid k hk⟩
 .intro x hx;obtain⟨k,hk,rfl⟩:=azr.1 hx;refine hnew ((qS m nx' L' off' r').length+k) ex[k].1 ex[k].2 (by omega) ?_;rw[hsp,axS (by omega),hql,Nat.add_sub_cancel_left];exact axI hk
 .rw [<- hsp];exact hI'.nodup
 .rintro a g rfl;obtain⟨g',hg'⟩:=hfix 1 a g rfl;have hq:=hmono rfl;rw[<- hs']at hq;obtain⟨⟨a',g2⟩,ha'⟩:=ayn.1 hq;have:=hx1 a' g2 ha';rw[hg']at this;simp only[axH,axJ]at this;obtain⟨rfl,rfl⟩:=this;exact⟨_,ha'⟩
 .rintro a g rfl ha';exact hnew 1 a g (by simp[qS]) (hx1 a g ha')
 .intro j hj hjo hja;refine hrest j hj ?_;intro k x g hk e
  match k,hk with
  | 0,hk=>
   simp[qπ]at hk;exact hjo (e.trans hk.1.symm)
  | k+1,hk=>
   cases oa with
   | none=>simp[qπ]at hk
   | some y=>
    cases k with
    | zero=>
     simp[qπ]at hk;exact hja x g (by rw[hk]) e
    | succ k=>simp[qπ]at hk
end
def ain{x:Nat}(h:x<256):IntKind.u8.wrap ((AM.bits .u8 (x:Int)&&& AM.bits .u8 15).toNat:Nat)=((x%16:Nat):Int):=by
 have h1:(AM.bits .u8 15).toNat=15:=by decide
 rw[azY,J4 h,h1,show x&&& 15=x%16 from Nat.and_two_pow_sub_one_eq_mod x 4,wu8 (by omega)]
def aek{x:Nat}(h:x<256):IntKind.u8.wrap ((AM.bits .u8 (x:Int)&&& AM.bits .u8 1).toNat:Nat)=((x%2:Nat):Int):=by
 have h1:(AM.bits .u8 1).toNat=1:=by decide
 rw[azY,J4 h,h1,az9,wu8 (by omega)]
def aio{x y:Nat}(hx:x<256)(hy:y<256):IntKind.i64.wrap ((AM.bits .i64 ((x*256:Nat):Int)||| AM.bits .i64 (y:Int)).toNat:Nat)=((x*256+y:Nat):Int):=by
 have hb:∀ v:Nat,v<65536->(AM.bits .i64 (v:Int)).toNat=v:=fun v hv=>bits_nat (by omega);rw[az7,hb _ (by omega),hb _ (by omega)];have:x*256||| y=x*256+y:=by rw[ayS];exact(Nat.two_pow_add_eq_or_of_lt (i:=8) hy x).symm
 rw[this,wrap_i64 (by omega) (by omega)]
section
variable {c:Nat}{b:List UInt8}
def U7{m:Nat}(hb:b.length<=1000000):∃ code,Try.f49.body=some code/\Run X (evT X) 49 m code [(0,.ro c (.pb b) 1)] [] ⟨.ret,[(2,.int .i64 (qW b))],[]⟩:=by
 refine⟨_,rfl,?_⟩;apply Run.seq (fr':=[(0,.ro c (.pb b) 1)]) (H':=[])
 .apply Pe;simp[-getElem?_pos,go_sem]
 unfold qW;by_cases h2:b.length<2
 .rw [if_pos h2];have h2I:(b.length:Int)<2:=by omega
  refine⟨0,?_⟩;generalize hN:b.length=N at *;simp[-getElem?_pos,go_sem,h2,h2I,hN]
 rw[if_neg h2];have h2I:¬ (b.length:Int)<2:=by omega
 apply Run.seq (fr':=[(0,.ro c (.pb b) 1),(5,.bool false)]) (H':=[])
 .apply Run.seq (fr':=[(0,.ro c (.pb b) 1),(5,.bool false)]) (H':=[])
  .generalize hN:b.length=N at *;apply Pe;simp[-getElem?_pos,go_sem,h2,h2I,hN]
  .exact Run.cond (d:=false) (by simp[aJ,aB]) ⟨0,rfl⟩
 obtain⟨x,hx⟩:∃ x,b[0]?=some x:=⟨_,axI (by omega)⟩;obtain⟨y,hy⟩:∃ x,b[1]?=some x:=⟨_,axI (by omega)⟩;have gx:b.getD 0 0=x:=by rw[axQ,hx];rfl
 have gy:b.getD 1 0=y:=by rw[axQ,hy];rfl
 rw[gx,gy];have l0:0<b.length:=by omega
 have l1:1<b.length:=by omega
 have l0I:(0:Int)<(b.length:Int):=by omega
 have l1I:(1:Int)<(b.length:Int):=by omega
 have bx:=x.toNat_lt;have by':=y.toNat_lt;have a1:=ain bx;have a2:((x.toNat:Nat):Int).fdiv 16=((x.toNat/16:Nat):Int):=by rw[ayH _ (by omega)];omega
 have a2':((x.toNat:Nat):Int)/16=((x.toNat/16:Nat):Int):=by omega
 have a3:((y.toNat:Nat):Int).fdiv 32=((y.toNat/32:Nat):Int):=by rw[ayH _ (by omega)];omega
 have a3':((y.toNat:Nat):Int)/32=((y.toNat/32:Nat):Int):=by omega
 have a4:=aek (x:=y.toNat/32) (by omega);have a5:IntKind.i64.wrap ((x.toNat:Nat):Int)=((x.toNat:Nat):Int):=wrap_i64 (by omega) (by omega);have a6:IntKind.i64.wrap (((x.toNat:Nat):Int) * 256)=((x.toNat * 256:Nat):Int):=by rw[wrap_i64 (by omega) (by omega)];omega
 have a7:IntKind.i64.wrap ((y.toNat:Nat):Int)=((y.toNat:Nat):Int):=wrap_i64 (by omega) (by omega);have a8:=aio bx by';have a9:((x.toNat * 256 + y.toNat:Nat):Int).tmod 31=(((x.toNat * 256 + y.toNat) % 31:Nat):Int):=by rw[ay9 (by omega)];omega
 have a9':((x.toNat * 256 + y.toNat:Nat):Int) % 31=(((x.toNat * 256 + y.toNat) % 31:Nat):Int):=by omega
 have aw:IntKind.i64.wrap (((x.toNat * 256 + y.toNat) % 31:Nat):Int)=(((x.toNat * 256 + y.toNat) % 31:Nat):Int):=wrap_i64 (by omega) (by omega);have ha1:x.toNat%16<256:=by omega
 generalize hu1:x.toNat % 16=u1 at *;generalize hu2:x.toNat/16=u2 at *;generalize hu3:y.toNat/32 % 2=u3 at *;generalize hu4:(x.toNat * 256 + y.toNat) % 31=u4 at *;generalize hu5:y.toNat/32=u5 at *;generalize hu6:x.toNat * 256 + y.toNat=u6 at *;generalize hu7:x.toNat * 256=u7 at *;simp only[go_sem]at a1 a4 a8;have h3:∃ code,Try.f49.body.bind (ay [1,1,0,0])=some code/\Run X (evT X) 49 m code [(0,.ro c (.pb b) 1),(5,.bool false)] [] ⟨.normal,[(39,.bool (decide (u1≠8\/7<u2\/u3≠0\/u4≠0)))],[]⟩:=by
  refine⟨_,rfl,?_⟩;generalize hN:b.length=N at *;by_cases c1:u1=8
  .by_cases c2:7<u2
   .have c2I:(7:Int)<(u2:Int):=by omega
    rw[decide_eq_true (.inr (.inl c2))];apply Pe;simp[-getElem?_pos,go_sem,hN,hx,hy,l0,l1,l0I,l1I,a1,a2,a2',c1,c2,c2I,retag]
   .have c2I:¬ (7:Int)<(u2:Int):=by omega
    by_cases c3:u3=0
    .by_cases c4:u4=0
     .rw [decide_eq_false (by omega)];apply Pe;simp[-getElem?_pos,go_sem,hN,hx,hy,l0,l1,l0I,l1I,a1,a2,a2',a3,a3',a4,a5,a6,a7,a8,a9,a9',aw,c1,c2,c2I,c3,c4,retag]
     .have c4I:((u4:Nat):Int)≠0:=by omega
      have c4b:(((u4:Nat):Int) != 0)=true:=by simpa using c4
      rw[decide_eq_true (.inr (.inr (.inr c4)))];apply Pe;simp[-getElem?_pos,go_sem,hN,hx,hy,l0,l1,l0I,l1I,a1,a2,a2',a3,a3',a4,a5,a6,a7,a8,a9,a9',aw,c1,c2,c2I,c3,c4,c4I,c4b,retag]
    .have c3b:(((u3:Nat):Int) != 0)=true:=by simpa using c3
     rw[decide_eq_true (.inr (.inr (.inl c3)))];apply Pe;simp[-getElem?_pos,go_sem,hN,hx,hy,l0,l1,l0I,l1I,a1,a2,a2',a3,a3',a4,c1,c2,c2I,c3,c3b,retag]
  .have c1b:(((u1:Nat):Int) != 8)=true:=by simp;omega
   rw[decide_eq_true (.inl c1)];apply Pe;simp[-getElem?_pos,go_sem,hN,hx,hy,l0,l1,l0I,l1I,a1,c1,c1b,retag]
 by_cases hc:u1≠8\/7<u2\/u3≠0\/u4≠0
 .rw [decide_eq_true hc]at h3;rw[if_pos hc];refine Run.bK ?_ (by simp);apply Run.seq (piece h3 _ rfl);refine⟨0,?_⟩;simp[-getElem?_pos,go_sem]
 .rw [decide_eq_false hc]at h3;rw[if_neg hc];apply Run.seq (fr':=[(39,.bool false)]) (H':=[])
  .apply Run.seq (piece h3 _ rfl);exact Run.cond (d:=false) (by simp[aJ,aB]) ⟨0,rfl⟩
  refine⟨0,?_⟩;simp[-getElem?_pos,go_sem]
def aae{H:AM.Heap}{a:AV}(ha:fJ H a=some (.pb b))(hb:b.length<=1000000):evT X 49 [a] H=some (.int .i64 (qW b),H):=by
 obtain⟨c,x,hx⟩:=iy (C:=X) (f:=49) (i:=0) rfl ha (dR 1);obtain⟨code,hc,hr⟩:=U7 (m:=0) (c:=c) hb;refine dI (Ev1.rU (l:=[.int .i64 (qW b)]) (bC X) Try.func49 hc hx (by simp[aC,ids]) (by simp[dA]) rfl rfl rfl ?_);rw[agr];exact⟨_,⟨rfl,rfl⟩,hr⟩
end
def Qy{x y k P:Nat}(hP:2 ^ k=P)(hy:y<P)(hx:x*P+y<4294967296):IntKind.u32.wrap ((AM.bits .u32 ((x*P:Nat):Int)||| AM.bits .u32 ((y:Nat):Int)).toNat:Nat)=((x*P+y:Nat):Int):=by
 have hb:∀ v:Nat,v<4294967296->(AM.bits .u32 (v:Int)).toNat=v:=by intro v hv;unfold AM.bits;rw[az8];show((v:Int)%4294967296).toNat=v;omega
 rw[az7,hb _ (by omega),hb _ (by omega)];subst hP;have:x*2 ^ k||| y=x*2 ^ k+y:=by rw[ayS];exact(Nat.two_pow_add_eq_or_of_lt (i:=k) hy x).symm
 rw[this,wrap_u32 (by omega) (by omega)]
def afw{F:Nat}{b out:List UInt8}{mo n:Int}(h0:0<=mo)(h:wM F b mo=(out,n,0)):∃ N:Nat,n=(N:Nat)/\N<=b.length/\(out.length:Int)<=mo:=by
 unfold wM at h;rw[if_neg (by omega)]at h;cases hb:ru b mo F F 0 []with
 | err e=>
  rw[hb]at h;simp only[axJ]at h;obtain⟨rfl,rfl,_⟩:=h;exact⟨0,rfl,ayF _,by simpa using h0⟩
 | ok L k o=>
  rw[hb]at h;simp only[axJ]at h;obtain⟨rfl,rfl,_⟩:=h;obtain⟨u1,u2,_,u4⟩:=(Sl F F).up b mo _ _ _ _ _ hb (by omega);exact⟨_,rfl,by omega,u4 (by simpa using h0)⟩
def aaf{H:AM.Heap}{a:AV}{l:List UInt8}(h:EH H a l)(hl:l.length<=1000000):evT X 34 [a] H=some (.int .u32 (adl l:Nat),H):=by
 rcases h with⟨o,g,τ,ob,rfl,ho,hw⟩|⟨rfl,τ,rfl⟩
 .refine YB ?_ hl;simp only[fJ,live,ho,hw.g,if_true,hw.ids,hw.p,gq];simp
 .have hl:aH X 34 H 0 [.ro 0 .pn τ]=some ([.ro 0 .pn 1],[⟨[],[τ]⟩]):=by
   have hr:X.rw 34 0=false:=rfl;rw[aH]
   .simp [hr,dY,dS,aH]
   .exact fun _ _ _ _ h=>by cases h
  have hm:=Td (H:=[]) (a:=.ro 0 (.pb []) 1) (l:=[]) rfl (by simp);have hr:∃ code,Try.f34.body=some code/\Run X (evT X) 34 0 code [(0,.ro 0 (.pb []) 1)] [] ⟨.ret,[(2,.int .u32 (adl []:Nat))],[]⟩:=by refine⟨_,rfl,0,?_⟩;simp[-getElem?_pos,go_sem,hm]
  obtain⟨code,hc,hr⟩:=hr;refine dI (Ev1.rU (l:=[.int .u32 (adl []:Nat)]) (bC X) Try.func34 hc hl (by simp[aC,ids]) (by simp[dA]) rfl rfl rfl ?_);rw[acQ,coD (.inr ⟨rfl,rfl⟩)];exact⟨_,⟨rfl,rfl⟩,hr⟩
def Um{f:Nat}{fn:Func}{code:Code}{H:AM.Heap}{a:AV}{b out:List UInt8}{x:Int}{rest:List AV}(hF:X.P.funcs[f]?=some fn)(hb:fn.body=some code)(h0:X.rw f 0=false)(h1:X.rw f 1=false)(ha:fJ H a=some (.pb b))(hri:aC rest=[])(hrt:aW rest=[])(hnt:dB rest=true)(hne:rest≠[])
 (ht:aj (lG fun fr E=>∃ v,aT X fr E fn.results.toList=some (v::rest)/\UW E out v) X (evT X) f 0 code (numbered 0 (coerce X [.ro (qK H a) (.pb b) 1,.int .i64 x] (aI X f))) []) :
 ∃ v R,evT X f [a,.int .i64 x] H=some (.tup (v::rest),H++R)/\Pz (vM H a) (H++R) v out/\∀ x∈ids v,H.length<=x:=by
 have hl:aH X f H 0 [a,.int .i64 x]=some ([.ro (qK H a) (.pb b) 1,.int .i64 x],[⟨slO a,[vM H a]⟩,⟨[],[]⟩]):=by
  have q1:=Dl (k:=1) ha;have e2:aH X f H 1 [.int .i64 x]=some ([.int .i64 x],[⟨[],[]⟩]):=by simp[aH,h1,dY,dS,tags]
  rw[aH];simp only[h0,ayg,q1,e2];exact fun _ _ _ _ h=>by first|(cases h;done)|exact Bool.noConfusion (h0.symm.trans h)
 have hres:∀ v:AV,dB (v::rest)=true->aG (v::rest)=.tup (v::rest):=by
  intro v hv;cases rest with
  | nil=>exact absurd rfl hne
  | cons y r=>simp[aG,hv]
 obtain⟨o,⟨ho,v,hr,hv⟩,hrun⟩:=ht;rcases hv with⟨q,g,τ,ob,hτ,rfl,hq,hw⟩|⟨rfl,rfl⟩
 .obtain ⟨τ',ob',q1,q3,q4⟩:=Ev1.newT (C:=X) (bC X) (tg0:=vM H a) (bo:=slO a) (n:=out.length) (p:=.pb out) (rest:=rest) hF hb hl rfl rfl (by simp[dA]) hri hrt hnt rfl rfl (by simp) ⟨o,⟨ho,q,g,τ,ob,hτ,hr,hq,hw⟩,hrun⟩;rw[hres _ (by simpa[dB]using hnt)]at q1;exact⟨_,[some ob'],dI q1,.inl ⟨H.length,0,τ',ob',q4,rfl,ayl,q3⟩,by simp[ids]⟩
 .have abm:dB (.ro 0 .pn 1::rest)=true:=by simpa[dB]using hnt
  have htN:∀ l:List AV,aW l=[]->l.flatMap Gu=[]:=by intro l hl;refine azu.2 fun t ht=>?_;obtain⟨y,hy,ht⟩:=ayX.1 ht;have:=iW hy t (Dn ht);rw[hl]at this;cases this
  have q1:=Ev1.bW (C:=X) (bC X) (tg0:=vM H a) (bo:=slO a) (l:=.ro 0 .pn 1::rest) hF hb hl rfl rfl (by simp[dA]) ⟨o,⟨ho,hr⟩,hrun⟩ (by rw[hres _ abm];simp[ids,aC,hri]) (by rw[hres _ abm];simp[tags,aW,hrt]) (by
   rw[hres _ abm];simp only[uf,azv,htN _ hrt];rfl)
  rw[hres _ abm]at q1;refine⟨.ro 0 .pn (vM H a),[],?_,.inr ⟨rfl,rfl⟩,by simp[ids]⟩;rw[ax1];refine dI ?_;have e2:bU (fun _ _=>none) (fun k=>if k=1 then vM H a else 0) rest=rest:=dZ rest hri (fun t ht=>by rw[hrt]at ht;cases ht);simpa[ren,bU,e2]using q1
def jA:Option AM.Obj:=some (⟨.pb [],0,none,0,true,false,0⟩:AM.Obj)
section
variable {c:Nat}{b:List UInt8}{mo:Int}{E:AM.Heap}
def YZ(E:AM.Heap):UW (E++[jA]) [] (.sl E.length 0 0 0):=.inl ⟨E.length,0,0,_,.inl rfl,rfl,ayl,⟨rfl,rfl,rfl,rfl,rfl⟩⟩
def upX(F:Nat)(b:List UInt8)(mo:Int)(fr:AM.Frame)(E:AM.Heap):Prop:=∃ v,aT X fr E Try.f40.results.toList=some [v,.int .i64 (zy F b mo).2]/\UW E (zy F b mo).1 v
def yx{F:Nat}{e:Int}(h:zy F b mo=([],e)):upX F b mo [(4,.sl E.length 0 0 0),(5,.int .i64 e)] (E++[jA]):=by
 refine⟨.sl E.length 0 0 0,?_,?_⟩
 .rw [h];rfl
 .rw [h];exact YZ E
def abn{m:Nat}{c':Nat}{v:AV}{r:List UInt8}{d:Bool}{x0 x1 x2 x3:UInt8}{z0 u1 u2 z1 z2 z3:Nat}(hr:4<=r.length)(h0:r[0]?=some x0)(h1:r[1]?=some x1)(h2:r[2]?=some x2)(h3:r[3]?=some x3)
 (w0:IntKind.u32.wrap ((x0.toNat:Nat):Int)=(x0.toNat:Nat))(w1:IntKind.u32.wrap ((x1.toNat:Nat):Int)=(x1.toNat:Nat))(w2:IntKind.u32.wrap ((x2.toNat:Nat):Int)=(x2.toNat:Nat))(w3:IntKind.u32.wrap ((x3.toNat:Nat):Int)=(x3.toNat:Nat))
 (s0:IntKind.u32.wrap (((x0.toNat:Nat):Int)*16777216)=(z0:Nat))(s1:IntKind.u32.wrap (((x1.toNat:Nat):Int)*65536)=(u1:Nat))(s2:IntKind.u32.wrap (((x2.toNat:Nat):Int)*256)=(u2:Nat))
 (o1:IntKind.u32.wrap ((AM.bits .u32 ((z0:Nat):Int)||| AM.bits .u32 ((u1:Nat):Int)).toNat:Nat)=(z1:Nat))(o2:IntKind.u32.wrap ((AM.bits .u32 ((z1:Nat):Int)||| AM.bits .u32 ((u2:Nat):Int)).toNat:Nat)=(z2:Nat))(o3:IntKind.u32.wrap ((AM.bits .u32 ((z2:Nat):Int)||| AM.bits .u32 ((x3.toNat:Nat):Int)).toNat:Nat)=(z3:Nat)) :
 ∃ code,Try.f40.body.bind (ay [1,1,1,1,1,1,1,0,0])=some code/\Run X (evT X) 40 m code [(0,.ro c' (.pb r) 1),(7,v),(35,.bool d)] E ⟨.normal,[(0,.ro c' (.pb r) 1),(7,v),(10,.int .u32 (z3:Nat))],E⟩:=by
 refine⟨_,rfl,?_⟩;have l0:0<r.length:=by omega
 have l1:1<r.length:=by omega
 have l2:2<r.length:=by omega
 have l3:3<r.length:=by omega
 have l0I:(0:Int)<(r.length:Int):=by omega
 have l1I:(1:Int)<(r.length:Int):=by omega
 have l2I:(2:Int)<(r.length:Int):=by omega
 have l3I:(3:Int)<(r.length:Int):=by omega
 simp only[go_sem]at w0 w1 w2 w3 s0 s1 s2 o1 o2 o3;generalize hN:r.length=N at *;apply Pe;simp[-getElem?_pos,go_sem,hN,h0,h1,h2,h3,l0,l1,l2,l3,l0I,l1I,l2I,l3I,w0,w1,w2,w3,s0,s1,s2,o1,o2,o3,retag]
def ade{m:Nat}{c':Nat}{v:AV}{r:List UInt8}{d:Bool}(hr:4<=r.length):∃ code,Try.f40.body.bind (ay [1,1,1,1,1,1,1,0,0])=some code/\Run X (evT X) 40 m code [(0,.ro c' (.pb r) 1),(7,v),(35,.bool d)] E ⟨.normal,[(0,.ro c' (.pb r) 1),(7,v),(10,.int .u32 (un4 r:Nat))],E⟩:=by
 obtain⟨x0,h0⟩:∃ x,r[0]?=some x:=⟨_,axI (by omega)⟩;obtain⟨x1,h1⟩:∃ x,r[1]?=some x:=⟨_,axI (by omega)⟩;obtain⟨x2,h2⟩:∃ x,r[2]?=some x:=⟨_,axI (by omega)⟩;obtain⟨x3,h3⟩:∃ x,r[3]?=some x:=⟨_,axI (by omega)⟩;have e:un4 r=x0.toNat * 16777216 + x1.toNat * 65536 + x2.toNat * 256 + x3.toNat:=by unfold un4;simp only[axQ,h0,h1,h2,h3,ayv]
 have b0:=x0.toNat_lt;have b1:=x1.toNat_lt;have b2:=x2.toNat_lt;have b3:=x3.toNat_lt;have o1:=Qy (x:=x0.toNat) (y:=x1.toNat * 65536) (k:=24) (P:=16777216) (by decide) (by omega) (by omega);have o2:=Qy (x:=x0.toNat * 256 + x1.toNat) (y:=x2.toNat * 256) (k:=16) (P:=65536) (by decide) (by omega) (by omega);have o3:=Qy (x:=(x0.toNat * 256 + x1.toNat) * 256 + x2.toNat) (y:=x3.toNat) (k:=8) (P:=256) (by decide) (by omega) (by omega);have t2:(x0.toNat * 256 + x1.toNat) * 65536=x0.toNat * 16777216 + x1.toNat * 65536:=by omega
 have t3:((x0.toNat * 256 + x1.toNat) * 256 + x2.toNat) * 256=x0.toNat * 16777216 + x1.toNat * 65536 + x2.toNat * 256:=by omega
 rw[t2]at o2;rw[t3]at o3;rw[e];exact abn hr h0 h1 h2 h3 (wrap_u32 (by omega) (by omega)) (wrap_u32 (by omega) (by omega)) (wrap_u32 (by omega) (by omega)) (wrap_u32 (by omega) (by omega))
  (by rw[wrap_u32 (by omega) (by omega)];omega) (by rw[wrap_u32 (by omega) (by omega)];omega) (by rw[wrap_u32 (by omega) (by omega)];omega) o1 o2 o3
end
def zu(b:List UInt8)(k:Nat)(o:List UInt8):Prop:=∀ l k1 o1,iw b 1 k o=.ok l k1 o1->l=1/\∀ t k2 o2,iw b 2 k1 o1=.ok t k2 o2->t≠2
def zu.last{b:List UInt8}{mo:Int}{F k k':Nat}{o o':List UInt8}{x:Blk}(h:zu b k o)(hx:CU b mo F k o=.ok x k' o'):x.last=true:=by
 unfold CU at hx;obtain⟨l,k2,o3,h1,h2⟩:=kW hx;obtain⟨t,k3,o4,h3,h4⟩:=kW h2;obtain⟨u,k4,o5,h5,h6⟩:=kW h4;have h7:=(h _ _ _ h1).1;injection h6 with e3 e4 e5;rw[<- e3,h7];rfl
section
variable {c:Nat}{b:List UInt8}{mo:Int}{t:Nat}{H:AM.Heap}{o:Nat}{oa:Option Nat}{s:Is}
def abo{m F p n0 y:Nat}{v:AV}{E:AM.Heap}(h:IrV c b mo t E 0 oa s)(hs:ji b mo s)(hb:b.length<=100000)(hm:mo<=1000000)(he:s.e=0)(hF:8*b.length<F)(hy:y<4)(hy2:y≠2) :
 ∃ E' oa' s',IrV c b mo t E' 0 oa' s'/\mO b mo (CS b mo F (y:Nat)) s s' ()/\Kpt E E' 0 oa oa'/\∃ code,Try.f71.body.bind (ay [1,1,0,1,0,0,1,0,1,1,1,1,1,0,1])=some code /\
  Run X (evT X) 71 m code (uZ v p n0++[(41,.int .i64 (y:Nat))]) E ⟨.normal,uZ v p n0,E'⟩:=by
 have hd:y=0\/y=1\/y=2\/y=3:=by omega
 have hlt:=h.lt;simp only[uZ];rcases hd with rfl|rfl|rfl|rfl
 .obtain ⟨E',oa',s',g1,g2,g3,g4⟩:=U8 h hs he hb hm;refine⟨E',oa',s',g2,?_,g4,_,rfl,?_⟩
  .exact g3.toE
  .apply Pe;simp[-getElem?_pos,go_sem,g1,ak]
 .have hx:=aaZ E;obtain⟨E',oa',s',g1,g2,g3,g4⟩:=Y0 (F:=F) (ll:=Au) (dl:=zF) (a:=.sl E.length 0 288 0) (a2:=.sl (E.length+1) 0 32 0) (h.cat (r:=[some (Dh Au),some (Dh zF)])) hs hb hm hF
   (by
    have:Au.length=288:=rfl;have:=S9 (E:=E++[some (Dh Au),some (Dh zF)]) (a:=E.length) (ob:=Dh Au) (off:=0) (n:=288) (acc:=Au) (g:=0) (τ:=0) (by simp) ⟨rfl,rfl,rfl,rfl,rfl⟩ (by omega)
    rwa [ayZ,aym (by omega)]at this)
   (by
    intro x hx;have:x=E.length:=by simpa[slO]using hx
    subst this;exact⟨by omega,fun y hy=>by have:=hlt.2 y hy;omega⟩)
   (by
    have:zF.length=32:=rfl;have:=S9 (E:=E++[some (Dh Au),some (Dh zF)]) (a:=E.length+1) (ob:=Dh zF) (off:=0) (n:=32) (acc:=zF) (g:=0) (τ:=0) (by simp) ⟨rfl,rfl,rfl,rfl,rfl⟩ (by omega)
    rwa [ayZ,aym (by omega)]at this)
   (by
    intro x hx;have:x=E.length+1:=by simpa[slO]using hx
    subst this;exact⟨by omega,fun y hy=>by have:=hlt.2 y hy;omega⟩) (by show 288<_;omega) (by show 32<_;omega)
  refine⟨E',oa',s',g2,?_,g4.head,_,rfl,?_⟩
  .exact g3.toE
  .apply Pe;simp[-getElem?_pos,go_sem,hx,g1,ak]
 .exact absurd rfl hy2
 .obtain ⟨E',q1,q2,q3⟩:=I4 (e:=5) h;refine⟨E',oa,lD s 5,q2,?_,q3,_,rfl,?_⟩
  .exact (dV.bad (d:=()) hs (by simp)).toE
  .apply Pe;simp[-getElem?_pos,go_sem,q1,ak]
def abp{m F:Nat}{v:AV}{la:Option Nat}{R:List AV}{E:AM.Heap}(h:IrV c b mo t E 0 oa s)(hs:ji b mo s)(hb:b.length<=100000)(hm:mo<=1000000)(he:s.e=0)(hF:8*b.length<F)(hL:LkV E la v R)(hR:R.length<=1000000)(l0:la≠some 0)(l1:∀ a,oa=some a->la≠some a)(hQ:zu b s.k s.o) :
 ∃ code,Try.f71.body.bind (ay [1,1,0,1,0,0,1])=some code/\aj (fun out=>∃ oa' s' la' v' R' x,IrV c b mo t out.H 0 oa' s'/\(∀ a,oa=some a->oa'=some a)/\LkV out.H la' v' R'/\la'≠some 0/\(∀ a,oa'=some a->la'≠some a)/\mO b mo (CU b mo F) s s' x/\R'.length<=R.length+1/\(∀ a,la=some a->la'=some a) /\
  ((out.ex=.exit 0/\aB out.fr 3=v'/\s'.e≠0)\/(out.ex=.normal/\out.fr=[(0,.ptr 0 0 0 0),(3,v'),(4,.bool x.last)]/\(s'.e=0->R'=R++[bkT x]))))
  X (evT X) 71 m code [(0,.ptr 0 0 0 0),(3,v),(17,.bool true)] E:=by
 refine⟨_,rfl,?_⟩;obtain⟨⟨vo,τ1,τ,a1,a2,h0,ho⟩,hne⟩:=id h;have hlt:=h.lt
 -- a new block
 have hr4:∃ code,Try.f71.body.bind (ay [1,1,0,1,0,0,1,0,0])=some code/\Run X (evT X) 71 m code [(0,.ptr 0 0 0 0),(3,v),(17,.bool true)] E ⟨.normal,[(0,.ptr 0 0 0 0),(3,v),(5,.ptr E.length 0 0 0)],E++[some (bkO 0 false s.k 0)]⟩:=by refine⟨_,rfl,?_⟩;simp only[fU,bkO,bkR]at h0 ⊢;apply Pe;simp[-getElem?_pos,go_sem,h0,arI,CO,yB,splice,jD,scalars,scalar]
 refine aj.blk ?_ (by
  rintro o ⟨_,_,_,_,_,_,_,_,_,_,_,_,_,_,hx⟩;rcases hx with⟨hx,_⟩|⟨hx,_⟩<;>rw[hx]<;>simp)
 apply aj.seq (piece hr4 _ rfl);have hV0:IrV c b mo t (E++[some (bkO 0 false s.k 0)]) 0 oa s:=h.cat;apply aj.seq (piece (adO hV0) _ rfl);have hK0:Kpt E (E++[some (bkO 0 false s.k 0)]) 0 oa oa:=Kpt.cat _;have ar2:(E++[some (bkO 0 false s.k 0)])[E.length]?=some (some (bkO 0 false s.k 0)):=by simp
 have hl0:(E++[some (bkO 0 false s.k 0)]).length=E.length+1:=by simp
 clear hr4;generalize E++[some (bkO 0 false s.k 0)]=E0 at *
 -- is it the avY
 obtain⟨E1,oa1,s1,u,g1,g2,g3,k1⟩:=sN (n:=1) (I:=1) rfl hV0 hs hb (by omega);obtain⟨hp1,hn1⟩:=kept (j:=E.length) k1 (by omega) (by omega) (fun a ha=>by have:=hlt.2 a ha;omega);rw[ar2]at hp1;have hle1:E.length+1<=E1.length:=by have:=k1.len;omega
 apply aj.seq (fr':=uZ v E.length s.o.length) (H':=AM.upd E1 E.length (some (bkO 0 (u==1) s.k 0)))
 .simp only[uZ,bkO,bkR]at hp1 ⊢;apply Pe;simp[-getElem?_pos,go_sem,g1,hp1]
 have hV1:=g2.other (x:=some (bkO 0 (u==1) s.k 0)) (j:=E.length) (by omega) hn1;have hK1:=(hK0.trans k1).Qj (p:=E.length) (x:=some (bkO 0 (u==1) s.k 0)) (axO _);have hp1':(AM.upd E1 E.length (some (bkO 0 (u==1) s.k 0)))[E.length]?=some (some (bkO 0 (u==1) s.k 0)):=by unfold AM.upd;rw[ayx (by omega)]
 have avZ:E.length+1<=(AM.upd E1 E.length (some (bkO 0 (u==1) s.k 0))).length:=by simpa[AM.upd]using hle1
 generalize AM.upd E1 E.length (some (bkO 0 (u==1) s.k 0))=E1' at *
 -- of what kind?
 obtain⟨E2,oa2,s2,y,j1,j2,j3,k2⟩:=sN (n:=2) (I:=2) rfl hV1 g3.1 hb (by omega);obtain⟨y0,y4⟩:=ny j3 g3.1;obtain⟨y,rfl⟩:∃ u':Nat,y=(u':Int):=⟨y.toNat,by omega⟩;obtain⟨hp2,hn2⟩:=kept (j:=E.length) k2 (by omega) (by omega) hn1;rw[hp1']at hp2;have hle2:=k2.len;apply aj.seq (fr':=uZ v E.length s.o.length) (H':=AM.upd E2 E.length (some (bkO (y:Nat) (u==1) s.k 0)))
 .simp only[uZ,bkO,bkR]at hp2 ⊢;apply Pe;simp[-getElem?_pos,go_sem,j1,hp2]
 have hV2:=j2.other (x:=some (bkO (y:Nat) (u==1) s.k 0)) (j:=E.length) (by omega) hn2;have hK2:=(hK1.trans k2).Qj (p:=E.length) (x:=some (bkO (y:Nat) (u==1) s.k 0)) (axO _);have hp2':(AM.upd E2 E.length (some (bkO (y:Nat) (u==1) s.k 0)))[E.length]?=some (some (bkO (y:Nat) (u==1) s.k 0)):=by unfold AM.upd;rw[ayx (by omega)]
 have av1:E.length+1<=(AM.upd E2 E.length (some (bkO (y:Nat) (u==1) s.k 0))).length:=by simp only[AM.upd,az6];omega
 generalize AM.upd E2 E.length (some (bkO (y:Nat) (u==1) s.k 0))=E2' at *;have hoff:∀ a,la=some a->a<E.length/\a≠0/\∀ z,oa=some z->a≠z:=fun a ha=>⟨hL.lt a ha,fun e=>l0 (by rw[ha,e]),fun z hz e=>l1 z hz (by rw[ha,e])⟩;have hL2:LkV E2' la v R:=hL.keep fun a ha=>hK2.rest a (hoff a ha).1 (hoff a ha).2.1 (hoff a ha).2.2;have hlx:∀ {E3:AM.Heap} {oa3:Option Nat},Kpt E E3 0 oa oa3->∀ a,oa3=some a->la≠some a:=by intro E3 oa3 hK a ha e;obtain⟨q1,q2,q3⟩:=hoff a e;exact(kept hK q1 q2 q3).2 a ha rfl
 -- an error?
 obtain⟨⟨vo2,τ3,τ4,a3,a4,h02,ho2⟩,hne2⟩:=id hV2;simp only[fU]at h02;apply aj.assoc;by_cases he2:¬ s2.e=0
 .have heb:(s2.e != 0)=true:=by simpa using he2
  refine aj.of (o:=⟨.exit 0,uZ v E.length s.o.length++[(39,.bool true)],E2'⟩) ?_ ⟨oa2,s2,la,v,R,⟨0,false,0,0⟩,hV2,hK2.same,hL2,l0,hlx hK2,?_,by omega,fun _ h=>h,.inl ⟨rfl,by simp[uZ,aB],he2⟩⟩
  .simp only[uZ];apply Pe;simp[-getElem?_pos,go_sem,h02,he2,heb]
  .have:=g3.toE.bnd (f:=fun l=>fC (iw b 2) fun t=>fC (CS b mo F t) fun _=>fun k' o'=>Res.ok (⟨t,l==1,s.k,o'.length-s.o.length⟩:Blk) k' o') (j3.toE.bnd (f:=fun t=>fC (CS b mo F t) fun _=>fun k' o'=>Res.ok (⟨t,u==1,s.k,o'.length-s.o.length⟩:Blk) k' o') (mO.stop (x:=⟨0,false,0,0⟩) j3.1 he2));exact this
 have he2:s2.e=0:=Classical.not_not.1 he2;apply aj.seq (fr':=uZ v E.length s.o.length++[(39,.bool false)]) (H':=E2')
 .simp only[uZ];apply Pe;simp[-getElem?_pos,go_sem,h02,he2]
 apply aj.seq (fr':=uZ v E.length s.o.length++[(39,.bool false)]) (H':=E2')
 .refine ⟨0,?_⟩;simp only[uZ];simp[-getElem?_pos,go_sem]
 apply aj.assoc;apply aj.seq (fr':=uZ v E.length s.o.length++[(41,.int .i64 (y:Nat))]) (H':=E2')
 .simp only[uZ,bkO,bkR]at hp2' ⊢;apply Pe;simp[-getElem?_pos,go_sem,hp2']
 have hy2:y≠2:=by obtain⟨f2,f3⟩:=j3.toE.fine he2;have:=(hQ _ _ _ (g3.toE.fine f2).2).2 _ _ _ f3;omega
 obtain⟨E3,oa3,s3,i1,i2,k3,hrk⟩:=abo (m:=m) (F:=F) (p:=E.length) (n0:=s.o.length) (y:=y) (v:=v) hV2 j3.1 hb hm he2 hF (by omega) hy2;apply aj.seq (piece hrk _ rfl);obtain⟨hp3,hn3⟩:=kept (j:=E.length) k3 (by omega) (by omega) hn2;rw[hp2']at hp3;have hs1:=hs.2;have hs3:=i2.1.2;apply aj.seq (piece (aa0 i1 hp3 (by omega) (by omega)) _ rfl);have hle3:=k3.len;have hV3:=i1.other (x:=some (bkO (y:Nat) (u==1) s.k ((s3.o.length:Int)-(s.o.length:Int)))) (j:=E.length) (by omega) hn3;have hK3:=(hK2.trans k3).Qj (p:=E.length) (x:=some (bkO (y:Nat) (u==1) s.k ((s3.o.length:Int)-(s.o.length:Int)))) (axO _);have aip:(AM.upd E3 E.length (some (bkO (y:Nat) (u==1) s.k ((s3.o.length:Int)-(s.o.length:Int)))))[E.length]?=some (some (bkO (y:Nat) (u==1) s.k ((s3.o.length:Int)-(s.o.length:Int)))):=by unfold AM.upd;rw[ayx (by omega)]
 generalize AM.upd E3 E.length (some (bkO (y:Nat) (u==1) s.k ((s3.o.length:Int)-(s.o.length:Int))))=E3' at *;have hL3:LkV E3' la v R:=hL.keep fun a ha=>hK3.rest a (hoff a ha).1 (hoff a ha).2.1 (hoff a ha).2.2;obtain⟨v',E4,la',hA,hL4,axt,hk4,hsm,hnw⟩:=hL3.app (kind:=(y:Nat)) (last:=(u==1)) (k:=s.k) (n:=(s3.o.length:Int)-(s.o.length:Int)) (by omega);have hlp:la≠some E.length:=fun e=>by have:=(hoff _ e).1;omega
 have hlt3:=hV3.lt;have hV4:IrV c b mo t E4 0 oa3 s3:=hV3.keep (hk4 0 hlt3.1 l0) fun a ha=>hk4 a (hlt3.2 a ha) (hlx hK3 a ha);have hla:la'≠some 0/\∀ a,oa3=some a->la'≠some a:=by
  cases hq:la with
  | none=>
   rw[hnw hq];exact⟨fun e=>by injection e with e;omega,fun a ha e=>by injection e with e;have:=hlt3.2 a ha;omega⟩
  | some z=>
   rw[hsm z hq,<- hq];exact⟨l0,fun a ha=>hlx hK3 a ha⟩
 have ar4:=adP (m:=m) aip hA (hk4 _ (eX aip) hlp) (hL3.off hlp) hL4;have hrun:mO b mo (CU b mo F) s s3 ⟨(y:Nat),u==1,s.k,s3.o.length-s.o.length⟩:=by have:=g3.toE.bnd (f:=fun l=>fC (iw b 2) fun t=>fC (CS b mo F t) fun _=>fun k' o'=>Res.ok (⟨t,l==1,s.k,o'.length-s.o.length⟩:Blk) k' o') (j3.toE.bnd (f:=fun t=>fC (CS b mo F t) fun _=>fun k' o'=>Res.ok (⟨t,u==1,s.k,o'.length-s.o.length⟩:Blk) k' o') (i2.bnd (f:=fun _=>fun k' o'=>Res.ok (⟨(y:Nat),u==1,s.k,o'.length-s.o.length⟩:Blk) k' o') (mO.pure (fun k' o'=>(⟨(y:Nat),u==1,s.k,o'.length-s.o.length⟩:Blk)) i2.1)));exact this
 refine aj.of (o:=⟨.normal,[(0,.ptr 0 0 0 0),(3,v'),(4,.bool (u==1))],E4⟩) (piece ar4 _ rfl) ⟨oa3,s3,la',v',_,_,hV4,hK3.same,hL4,hla.1,hla.2,hrun,by simp,hsm,.inr ⟨rfl,rfl,fun he3=>?_⟩⟩;have hlen:s.o.length<=s3.o.length:=by obtain⟨_,f1⟩:=i2.fine he3;obtain⟨f2,f3⟩:=j3.fine he2;obtain⟨_,f4⟩:=g3.fine f2;obtain⟨x1,hx1⟩:=((J9 F _).up _ _ _ _ _ _ _ f1 j3.1.1).2.2.1;obtain⟨x2,hx2⟩:=((iR 2).up b mo _ _ _ _ _ f3 g3.1.1).2.2.1;obtain⟨x3,hx3⟩:=((iR 1).up b mo _ _ _ _ _ f4 hs.1).2.2.1;rw[hx1,hx2,hx3];simp only[axR];omega
 simp only[bkT];rw[show((s3.o.length-s.o.length:Nat):Int)=(s3.o.length:Int)-(s.o.length:Int)by omega]
end
section
variable {c:Nat}{b:List UInt8}{mo:Int}{t:Nat}{H:AM.Heap}{o:Nat}{oa:Option Nat}{s:Is}
def U9{m F:Nat}{E:AM.Heap}(h:IrV c b mo t E 0 oa s)(hs:ji b mo s)(hb:b.length<=100000)(hm:mo<=1000000)(he:s.e=0)(hF:8*b.length<F)(hF2:F<=1000000)(hQ:zu b s.k s.o):∃ code,Try.f71.body=some code /\
 aj (lG fun fr E'=>∃ s' oa' a g ob R L,aB fr 2=.sl a 0 R.length g/\IrV c b mo t E' 0 oa' s'/\(∀ x,oa=some x->oa'=some x)/\E'[a]?=some (some ob)/\Rw (.pr 4 R) g ob/\a≠0/\(∀ x,oa'=some x->a≠x)/\(∀ p∈R,ids p=[]/\tags p=[])/\mO b mo (ru b mo F F) s s' L/\(s'.e=0->R=L.map bkT)) X (evT X) 71 m code [(0,.ptr 0 0 0 0)] E:=by
 refine⟨_,rfl,?_⟩;have hE:dh X 119=.pr 4 []:=by kernel_rfl
 apply aj.seq (fr':=[(0,.ptr 0 0 0 0)]) (H':=E++[some (⟨.pr 4 [],0,none,0,true,false,0⟩:AM.Obj)])
 .apply Pe;simp[-getElem?_pos,go_sem,ak,rowOf,hE]
 have hV0:IrV c b mo t (E++[some (⟨.pr 4 [],0,none,0,true,false,0⟩:AM.Obj)]) 0 oa s:=h.cat;generalize E++[some (⟨.pr 4 [],0,none,0,true,false,0⟩:AM.Obj)]=E0 at *;apply aj.seq (fr':=[(0,.ptr 0 0 0 0),(3,.sl E0.length 0 0 0)]) (H':=E0++[some (⟨.pr 4 [],0,none,0,true,false,0⟩:AM.Obj)])
 .apply Pe;simp[-getElem?_pos,go_sem,ak,rowOf,hE]
 have hV1:IrV c b mo t (E0++[some (⟨.pr 4 [],0,none,0,true,false,0⟩:AM.Obj)]) 0 oa s:=hV0.cat;have hL1:LkV (E0++[some (⟨.pr 4 [],0,none,0,true,false,0⟩:AM.Obj)]) (some E0.length) (.sl E0.length 0 0 0) []:=⟨by simp,0,⟨.pr 4 [],0,none,0,true,false,0⟩,rfl,by simp,⟨rfl,rfl,rfl,rfl,rfl⟩⟩;have hlt:=hV0.lt;generalize E0++[some (⟨.pr 4 [],0,none,0,true,false,0⟩:AM.Obj)]=E1 at *;apply aj.assoc;apply aj.seq (fr':=Yz (.sl E0.length 0 0 0) false) (H':=E1)
 .simp only[Yz];apply Pe;simp[-getElem?_pos,go_sem,ak]
 have hz:E0.length≠0:=by omega
 have hzo:∀ a,oa=some a->E0.length≠a:=fun a ha=>by have:=hlt.2 a ha;omega
 generalize E0.length=z at *;apply aj.andThen (P:=fun fr E'=>∃ s' oa' v R L,aB fr 3=v/\IrV c b mo t E' 0 oa' s'/\(∀ x,oa=some x->oa'=some x)/\LkV E' (some z) v R/\(∀ x,oa'=some x->z≠x)/\mO b mo (ru b mo F F) s s' L/\(s'.e=0->R=L.map bkT))
 .apply aj.block;refine aj.jP (I:=fun q fr E'=>∃ oa' s' v R done l,fr=Yz v l/\IrV c b mo t E' 0 oa' s'/\ji b mo s'/\(∀ x,oa=some x->oa'=some x)/\LkV E' (some z) v R/\(∀ x,oa'=some x->z≠x)/\(s'.e=0->R=done.map bkT)/\R.length+q<=F/\(s'.e=0->8*b.length<s'.k+q)/\(l=false->s'.e=0->s'=s)/\((l=false/\Iu b mo (ru b mo F q) s' (ru b mo F F) s (fun u=>done++u))\/(l=true/\mO b mo (ru b mo F F) s s' done))) ?_ (k:=F) ⟨oa,s,_,[],[],false,rfl,hV1,hs,fun _ h=>h,hL1,hzo,fun _=>rfl,by simp,fun _=>by omega,fun _ _=>rfl,.inl ⟨rfl,fun _ _ h=>h⟩⟩;rintro q fr E' ⟨oa',s',v,R,done,l,rfl,hV,hs',hm',hL,hoff,hR,hlen,hf,hs0,hC⟩;apply aj.assoc;apply aj.seq (piece (ahY (l:=l) hV) _ rfl);by_cases hgo:(!l&&(s'.e==0))=true
  .obtain ⟨hl,he'⟩:l=false/\s'.e=0:=by simpa using hgo
   subst hl;rw[hgo];have hC':=hC.elim (fun h=>h.2) (fun h=>absurd h.1 (by simp));have h1:=hf he';have hQ':zu b s'.k s'.o:=by rw[hs0 rfl he'];exact hQ
   have h2:=hs'.1;obtain⟨q,rfl⟩:∃ q',q=q'+1:=⟨q-1,by omega⟩;apply aj.seq (fr':=[(0,.ptr 0 0 0 0),(3,v),(17,.bool true)]) (H':=E')
   .refine ⟨0,?_⟩;simp[-getElem?_pos,go_sem]
   refine aj.mono (piece (abp (m:=m) hV hs' hb hm he' hF hL (by omega) (by simpa using hz) (fun a ha=>by simpa using hoff a ha) hQ') _ rfl) ?_;rintro out ⟨oa2,s2,la',v',R',x,v1,v2,v3,v4,v5,v6,v7,v9,v8⟩;have hla:la'=some z:=v9 z rfl;subst hla;have hfv:s2.e=0->s'.k+3<=s2.k:=fun h=>adQ (v6.fine h).2 h2;rcases v8 with⟨w1,w2,w3⟩|⟨w1,w2,w3⟩
   .refine .inr ⟨by rw[w1];simp,w1,s2,oa2,v',R',[],w2,v1,fun a ha=>v2 a (hm' a ha),v3,fun a ha=>by simpa using v5 a ha,?_,fun h=>absurd h w3⟩;have hC2:Iu b mo (if x.last=true then o9 [x]else fC (ru b mo F q) fun r=>o9 (x::r)) s2 (ru b mo F F) s (fun u=>done++u):=hC'.step v6;exact hC2.done' v6.1 w3 [] _
   .have hC2:Iu b mo (if x.last=true then o9 [x]else fC (ru b mo F q) fun r=>o9 (x::r)) s2 (ru b mo F F) s (fun u=>done++u):=hC'.step v6;refine .inl ⟨w1,q,by omega,oa2,s2,v',R',done++[x],x.last,w2,v1,v6.1,fun a ha=>v2 a (hm' a ha),v3,fun a ha=>by simpa using v5 a ha,fun h=>?_,by omega,fun h=>?_,fun hl h=>(by have:=hQ'.last (v6.fine h).2;rw[this]at hl;cases hl),?_⟩
    .rw [w3 h,hR he'];simp
    .have:=hfv h;omega
    .cases hl:x.last with
     | true=>
      rw[if_pos hl]at hC2;exact .inr ⟨rfl,hC2 _ [x] (dV.ret (d:=[x]) v6.1 fun _=>rfl).toE⟩
     | false=>
      rw[if_neg (by simp[hl])]at hC2;refine .inl ⟨rfl,fun s3 y hy=>?_⟩;have:=hC2 s3 (x::y) (hy.bnd (f:=fun r=>o9 (x::r)) (dV.ret (d:=x::y) hy.1 fun _=>rfl).toE);simpa using this
  .refine aj.of (o:=⟨.exit 0,[(0,.ptr 0 0 0 0),(3,v),(17,.bool (!l&&(s'.e==0)))],E'⟩) ?_ (.inr ⟨by simp,rfl,s',oa',v,R,done,by simp[aB],hV,hm',hL,hoff,?_,hR⟩)
   .rw [show(!l&&(s'.e==0))=false by simpa using hgo];refine⟨0,?_⟩;simp[-getElem?_pos,go_sem]
   .rcases hC with⟨hl,hC⟩|⟨_,hC⟩
    .subst hl;have hne:s'.e≠0:=by simpa using hgo
     exact hC.done' hs' hne [] _
    .exact hC
 .rintro fr E' ⟨s',oa',v,R,L,hv,hV,hm',hL,hoff,hrun,hR⟩;obtain⟨hfl,g,ob,rfl,ho,hw⟩:=hL;refine aj.of (o:=⟨.ret,[(2,.sl z 0 R.length g)],E'⟩) ?_ ⟨rfl,s',oa',z,g,ob,R,L,rfl,hV,hm',ho,hw,hz,hoff,hfl,hrun,hR⟩;refine⟨0,?_⟩;generalize R.length=N at *;simp[-getElem?_pos,go_sem,hv,ak]
end
section
variable {c:Nat}{b:List UInt8}{mo:Int}{t:Nat}{H:AM.Heap}{o:Nat}{oa:Option Nat}{s:Is}
def Y1{F:Nat}(h:IrV c b mo t H o oa s)(hs:ji b mo s)(hb:b.length<=100000)(hm:mo<=1000000)(he:s.e=0)(hF:8*b.length<F)(hF2:F<=1000000)(hQ:zu b s.k s.o) :
 ∃ H' oa' s' a g τ ob R L,evT X 71 [.ptr o 0 0 0] H=some (.sl a 0 R.length g,H')/\IrV c b mo t H' o oa' s'/\mO b mo (ru b mo F F) s s' L/\(s'.e=0->R=L.map bkT)/\Kpt H H' o oa oa' /\
  (τ=0\/τ=t)/\H'[a]?=some (some ob)/\RwT (.pr 4 R) g τ ob/\(∀ p∈R,ids p=[]/\tags p=[])/\H.length<=a/\a≠o/\∀ y,oa'=some y->a≠y:=by
 obtain⟨code,hc⟩:∃ code,Try.f71.body=some code:=⟨_,rfl⟩;obtain⟨H',oa',s',w0,ex,ps,τf,hE,hτ,hV,hR,hnew,hnd,⟨R,L,rfl,rfl,hrun,hL,hfl⟩,hk⟩:=Un (f:=71) (n:=2) (xs:=[]) (ys:=[]) (Q:=fun s' w0 ps=>∃ R L,ps=[.pr 4 R]/\w0=.sl 0 0 R.length 0/\mO b mo (ru b mo F F) s s' L/\(s'.e=0->R=L.map bkT)/\∀ p∈R,ids p=[]/\tags p=[])
  Try.func71 hc rfl h (fun π K hπ=>gG.nil) rfl rfl (by simp[dA]) (by
   intro m E oa1 _ _ _ hE;obtain⟨nM,hc2,ht⟩:=U9 (m:=m) (F:=F) hE hs hb hm he hF hF2 hQ;refine⟨nM,hc2,?_⟩;rw[agx];refine ht.mono ?_;rintro out ⟨ho1,s',oa',a,g,ob,R,L,q1,q2,q3,q4,q5,q6,q7,q8,q9,q10⟩;refine⟨.inr ho1,s',oa',[.sl a 0 R.length g],[(a,g)],[.pr 4 R],.sl 0 0 R.length 0,?_,q2,q3,⟨⟨0,ob,.inl rfl,q4,⟨q5.p,q5.g,q5.row,q5.ids,q5.tg⟩⟩,trivial⟩,?_,?_,by simp[ids],by simp[ids],by simp[ids],by simp[tags],by simp[aG,ren,gQ],R,L,rfl,rfl,q9,q10,q8⟩
   .show aT X out.fr out.H [.tmp 2]=_;simp[aT,q1]
   .intro p hp;simp at hp;subst hp;obtain⟨f1,f2⟩:=Ji q8;exact⟨by simp[ids,f1],by simp[tags,f2]⟩
   .have hne:=q2.ne;cases oa' with
    | none=>simp;omega
    | some y=>
     have h1:=hne y rfl;have h2:=q7 y rfl;simp;omega)
 match ex,hR with
 | [(x,g)],hR=>
  obtain⟨⟨τ4,ob,h4,h5,h6⟩,_⟩:=hR;refine⟨H',oa',s',x,g,τ4,ob,R,L,by simpa[ren,gQ]using hE,hV,hrun,hL,hk,h4,h5,h6,hfl,hnew (x,g) (by simp),?_,?_⟩
  .intro e;subst e;simp at hnd
  .intro w hw e;subst hw e;simp at hnd
end
section
variable {c:Nat}{b:List UInt8}{mo:Int}
def Va{m F:Nat}(hb:b.length<=100000)(hm:mo<=1000000)(hm0:0<=mo)(hF:8*b.length<F)(hF2:F<=1000000)(hQ:zu b 0 []):∃ code,Try.f50.body=some code /\
 aj (lG (arM b mo F)) X (evT X) 50 m code [(0,.ro c (.pb b) 1),(1,.int .i64 mo)] []:=by
 refine⟨_,rfl,?_⟩;apply aj.seq (fr':=[(0,.ro c (.pb b) 1),(1,.int .i64 mo)]) (H':=[some (⟨.pb [],0,none,0,true,false,0⟩:AM.Obj)])
 .apply Pe;simp[-getElem?_pos,go_sem,ak,rowOf,emY]
 apply aj.assoc;apply aj.seq (fr':=[(0,.ro c (.pb b) 1),(1,.int .i64 mo),(9,.bool false)]) (H':=[some (⟨.pb [],0,none,0,true,false,0⟩:AM.Obj)])
 .have:¬ mo<0:=by omega
  apply Pe;simp[-getElem?_pos,go_sem,this]
 apply aj.seq (fr':=[(0,.ro c (.pb b) 1),(1,.int .i64 mo),(9,.bool false)]) (H':=[some (⟨.pb [],0,none,0,true,false,0⟩:AM.Obj)])
 .refine ⟨0,?_⟩;simp[-getElem?_pos,go_sem]
 apply aj.seq (fr':=[(7,.ptr 1 0 0 0)]) (H':=[some (⟨.pb [],0,none,0,true,false,0⟩:AM.Obj),some (fU c b mo ⟨0,[],0⟩ (.ro 0 .pn 0) 1 0)])
 .simp only[fU];apply Pe;simp[-getElem?_pos,go_sem,arL,ak]
 have hV:IrV c b mo 1 [some (⟨.pb [],0,none,0,true,false,0⟩:AM.Obj),some (fU c b mo ⟨0,[],0⟩ (.ro 0 .pn 0) 1 0)] 1 none ⟨0,[],0⟩:=⟨⟨_,1,0,.inr rfl,.inl rfl,rfl,rfl,0,.inl rfl,rfl⟩,fun a h=>by cases h⟩;generalize [some (⟨.pb [],0,none,0,true,false,0⟩:AM.Obj),some (fU c b mo ⟨0,[],0⟩ (.ro 0 .pn 0) 1 0)]=E0 at *;obtain⟨E1,oa1,s1,a,g,τ,ob,R,L,hE,hV1,hrun,_⟩:=Y1 (F:=F) hV ⟨by simp,by simpa using hm0⟩ hb hm rfl hF hF2 hQ;apply aj.seq (fr':=[(7,.ptr 1 0 0 0)]) (H':=E1)
 .generalize R.length=N at *;apply Pe;simp[-getElem?_pos,go_sem,hE]
 obtain⟨⟨vo,τ1,τ,a1,a2,h0,ho⟩,hne⟩:=id hV1;simp only[fU]at h0;apply aj.assoc;apply aj.seq (fr':=[(7,.ptr 1 0 0 0),(20,.bool (s1.e != 0))]) (H':=E1)
 .by_cases he:s1.e=0
  .rw [he]at h0 ⊢;apply Pe;simp[-getElem?_pos,go_sem,h0]
  .have heb:(s1.e != 0)=true:=by simpa using he
   apply Pe;simp[-getElem?_pos,go_sem,h0,he,heb]
 by_cases he:s1.e=0
 .have hok:=(hrun.fine he).2;simp only at hok;rw[show(s1.e != 0)=false by simpa using he];apply aj.seq (fr':=[(7,.ptr 1 0 0 0),(20,.bool false)]) (H':=E1)
  .refine ⟨0,?_⟩;simp[-getElem?_pos,go_sem]
  obtain⟨v,E2,hv,hr⟩:=adR (m:=m) hV1 hb hrun.1;apply aj.seq (piece hr _ rfl);refine aj.of (o:=⟨.ret,[(4,v),(5,.int .i64 ((s1.k+7)/8:Nat)),(6,.int .i64 0)],E2⟩) ⟨0,rfl⟩ ⟨rfl,s1.o,((s1.k+7)/8:Nat),0,v,?_,rfl,rfl,rfl,hv⟩;unfold wM;rw[if_neg (by omega),hok]
 .have h2:=hrun.2;simp only[if_true]at h2;rw[show(s1.e != 0)=true by simpa using he];obtain⟨E2,hv,hr⟩:=adS (m:=m) hV1;refine aj.zx ?_ (fun o ho=>by rw[ho.1];simp);refine aj.y5 (by simp[aJ,aB]) ?_;apply aj.seq (piece hr _ rfl);refine aj.of (o:=⟨.ret,[(4,.sl E1.length 0 0 0),(5,.int .i64 0),(6,.int .i64 s1.e)],E2⟩) ⟨0,rfl⟩ ⟨rfl,[],0,s1.e,_,?_,rfl,rfl,rfl,hv⟩;unfold wM;rw[if_neg (by omega)];cases hb:ru b mo F F 0 []with
  | ok x k o=>
   rw[hb]at h2;obtain⟨rfl,_⟩:=h2;exact absurd rfl he
  | err e=>
   rw[hb]at h2;rw[h2.1]
end
def VW{F:Nat}{H:AM.Heap}{a:AV}{b:List UInt8}{mo:Int}(ha:fJ H a=some (.pb b))(hb:b.length<=100000)(hm:mo<=1000000)(hm0:0<=mo)(hF:8*b.length<F)(hF2:F<=1000000)(hQ:zu b 0 []) :
 ∃ out n e v R,wM F b mo=(out,n,e)/\evT X 50 [a,.int .i64 mo] H=some (.tup [v,.int .i64 n,.int .i64 e],H++R)/\Pz (vM H a) (H++R) v out:=by
 have hl:aH X 50 H 0 [a,.int .i64 mo]=some ([.ro (qK H a) (.pb b) 1,.int .i64 mo],[⟨slO a,[vM H a]⟩,⟨[],[]⟩]):=by have h1:=Dl (k:=1) ha;have hr:X.rw 50 0=false:=rfl;have hr1:X.rw 50 1=false:=rfl;have e2:aH X 50 H 1 [.int .i64 mo]=some ([.int .i64 mo],[⟨[],[]⟩]):=rfl;rw[aH];simp only[hr,ayg,h1,e2];exact fun _ _ _ _ h=>by first|(cases h;done)|exact Bool.noConfusion (hr.symm.trans h)
 obtain⟨code,hc,⟨out,⟨ho,l,n,e,v,h1,h2,h3,h4,h5⟩,hrun⟩⟩:=Va (m:=0) (c:=qK H a) (b:=b) hb hm hm0 hF hF2 hQ;have hres:aT X out.fr out.H (Try.f50.results.toList)=some [v,.int .i64 n,.int .i64 e]:=by show aT X out.fr out.H [.tmp 4,.tmp 5,.tmp 6]=_;simp[aT,h2,h3,h4]
 have hcall:aj (fun o=>o=out) X (evT X) 50 0 code (numbered 0 (coerce X [.ro (qK H a) (.pb b) 1,.int .i64 mo] (aI X 50))) []:=by rw[ags];exact⟨out,rfl,hrun⟩
 rcases h5 with⟨o,g,τ,ob,hτ,rfl,ho2,hw⟩|⟨rfl,rfl⟩
 .obtain ⟨τ',ob',q1,q3,q4⟩:=Ev1.newT (C:=X) (bC X) (tg0:=vM H a) (bo:=slO a) (n:=l.length) (p:=.pb l) (rest:=[.int .i64 n,.int .i64 e]) Try.func50 hc hl rfl rfl (by simp[dA]) rfl rfl rfl rfl rfl (by simp) (hcall.mono fun x hx=>by
   subst hx;exact⟨ho,o,g,τ,ob,hτ,hres,ho2,hw⟩)
  exact⟨l,n,e,_,[some ob'],h1,dI q1,.inl ⟨H.length,0,τ',ob',q4,rfl,ayl,q3⟩⟩
 .have q1:=Ev1.bW (C:=X) (bC X) (tg0:=vM H a) (bo:=slO a) (l:=[.ro 0 .pn 1,.int .i64 n,.int .i64 e]) Try.func50 hc hl rfl rfl (by simp[dA]) (hcall.mono fun x hx=>by
   subst hx;exact⟨ho,hres⟩) rfl (by simp[aG,dB,tags,aW]) rfl
  exact⟨[],n,e,.ro 0 .pn (vM H a),[],h1,by rw[ax1];exact dI (by simpa[aG,dB,ren,bU]using q1),.inr ⟨rfl,rfl⟩⟩
end Go.Proofs.Ytbodincpjijdiaa
