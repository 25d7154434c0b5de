/- V7 to V8: texts of this claim, one behind the other; what each shows stands at its head. -/
import Derived.Test.YtbodincpjijdiaaMg14
set_option linter.defProp false
set_option linter.unusedSimpArgs false
set_option linter.unusedVariables false
set_option maxRecDepth 100000
set_option maxHeartbeats 8000000
namespace Go.Proofs.Ytbodincpjijdiaa
open Go.AM
section
variable {c c3 m ou fin:Nat}{rows:List (Nat×List UInt8)}{cuts:List Int}
def IC(c c3:Nat)(rows:List (Nat×List UInt8))(cuts:List Int)(tl:AM.Frame):AM.Frame:=[(0,.ro c (.pc (rows.map xG)) 1),(3,.ro c3 (.pi .i64 cuts) 4)]++tl
def aer{E:AM.Heap}{z XL r q:Nat}(hr:∃ ob,E[r]?=some (some ob)/\ob.g=0)(hq:∃ ob,E[q]?=some (some ob)/\ob.g=0) :
 ∃ code,Try.f7.body.bind (ay [1,1,1,1,1,1,1,1,1,0,0])=some code/\Run X (evT X) 7 0 code (IC c c3 rows cuts [(15,.sl z 0 XL 0),(17,.int .i64 0),(18,.ptr r 0 0 0),(19,.int .i64 0),(20,.ptr q 0 0 0),(21,.int .i64 0)]) E ⟨.normal,IC c c3 rows cuts [(15,.sl z 0 XL 0),(18,.ptr r 0 0 0),(20,.ptr q 0 0 0),(119,.bool false)],E⟩:=by
 refine⟨_,rfl,?_⟩;obtain⟨ob1,h1,g1⟩:=hr;obtain⟨ob2,h2,g2⟩:=hq;unfold IC;apply Pe;simp[-getElem?_pos,go_sem,h1,g1,h2,g2,isNil,jW]
def aby{E:AM.Heap}{r q T C fn0:Nat}{chs:List (List UInt8)}(hm:1<=m)(hm2:m<=200)(hou:1<=ou)(aes:ou<=200)(hrc:∀ r∈rows,r.1=0->r.2=[])(hrl:rows.length<=10)(hbl:∀ b∈bds rows,b.length<=100)(hcl:chs.length<=3001)(hcp:0<chs.length)(hI0:VcI m ou fin fn0 chs (bds rows) E r q T C 0 0 []) :
 ∃ code,Try.f7.body.bind (ay [1,1,1,1,1,1,1,1,1,1,1,1])=some code/\aj (fun o=>o.ex=.ret/\aB o.fr 8=.bool true) X (evT X) 7 0 code [(0,.ro c (.pc (rows.map xG)) 1),(18,.ptr r 0 0 0),(20,.ptr q 0 0 0),(22,.sl T 0 0 0),(23,.sl C 0 chs.length 0)] E:=by
 refine⟨_,rfl,?_⟩;have hbn:(bds rows).length<=10:=by simp[bds];omega
 apply aj.assoc;apply aj.seq (fr':=mP c rows r q T 0 0 C chs.length 0 []) (H':=E)
 .unfold mP;generalize chs.length=M at *;apply Pe;simp[-getElem?_pos,go_sem]
 apply aj.andThen (P:=fun fr E=>∃ g out,fr=mP c rows r q T out.length g C chs.length chs.length [(126,.bool false)]/\VcI m ou fin fn0 chs (bds rows) E r q T C g chs.length out)
 .refine aj.block (P:=fun fr E=>∃ g out,fr=mP c rows r q T out.length g C chs.length chs.length [(126,.bool false)]/\VcI m ou fin fn0 chs (bds rows) E r q T C g chs.length out) ?_;refine aj.jP (fun k fr E=>∃ i g out,k=chs.length-i/\i<=chs.length/\fr=mP c rows r q T out.length g C chs.length i []/\VcI m ou fin fn0 chs (bds rows) E r q T C g i out) ?_ (k:=chs.length) ⟨0,0,[],rfl,ayF _,rfl,hI0⟩;rintro k fr E ⟨i,g,out,rfl,hi,rfl,hI⟩;obtain⟨axu,l',hC',hl',ar8⟩:=hI.ch;have r25:=aeu (c:=c) (rows:=rows) (r:=r) (q:=q) (T:=T) (chs:=chs) (N:=out.length) (g:=g) (i:=i) hC' ar8.g;by_cases hin:i<chs.length
  .rw [decide_eq_true hin]at r25;apply aj.assoc;apply aj.seq (piece r25 _ rfl);apply aj.seq (fr':=mP c rows r q T out.length g C chs.length i [(126,.bool true)]) (H':=E)
   .exact Run.cond (d:=true) (by simp[mP,aJ,aB]) ⟨0,rfl⟩
   obtain⟨g',out',E',hI',hr⟩:=abz hm hm2 hou aes hbl hbn hI hin (by omega);exact aj.of (piece hr _ rfl) (.inl ⟨rfl,chs.length-(i+1),by omega,i+1,g',out',rfl,by omega,rfl,hI'⟩)
  .rw [decide_eq_false hin]at r25;obtain rfl:i=chs.length:=by omega
   exact aj.of (o:=⟨.exit 2,mP c rows r q T out.length g C chs.length chs.length [(126,.bool false)],E⟩) (Run.bK (Run.seq (piece r25 _ rfl) (Run.cond (d:=false) (by simp[mP,aJ,aB]) ⟨0,rfl⟩)) (by simp)) (.inr ⟨by simp,rfl,g,out,rfl,hI⟩)
 rintro fr E ⟨g,out,rfl,hI⟩;obtain⟨oa,nx,L,off,p,s,pa,pc,bs,_,hS,hN,_,_,_,hbs,hst,_⟩:=hI.z;rw[List.drop_length]at hS;obtain⟨hp,_,_⟩:=hN.done hou hS;have ar9:bs=[]:=by
  cases bs with
  | nil=>rfl
  | cons b r=>
   have:=hst (by omega) b r rfl;rw[hp]at this;simp at this
 rw[ar9,ax1]at hbs;have hlen:out.length=rows.length:=by have:=congrArg List.length hbs;simp[bds]at this;omega
 apply aj.assoc;apply aj.seq (fr':=wB c rows T out.length g 0 []) (H':=E)
 .unfold mP wB;generalize out.length=N at *;generalize chs.length=M at *;apply Pe;simp[-getElem?_pos,go_sem]
 apply aj.seq (piece (abA hrc hrl hI.t hbs.symm) _ rfl);obtain⟨l,ob,τ,_,_,_,ho,hw⟩:=hI.t;have hg:=hw.g;refine aj.of (o:=⟨.ret,[(8,.bool true)],E⟩) ⟨0,?_⟩ ⟨rfl,rfl⟩;unfold wB;rw[hlen];simp[-getElem?_pos,go_sem,ho,hg]
end
def Ze{H:AM.Heap}{x:Option AM.Obj}:(H++[x])[H.length]?=some x:=ayl
def abB{H:AM.Heap}{x:Option AM.Obj}:(H++[x]).length=H.length+1:=by simp
section
variable (c c3:Nat)(rows:List (Nat×List UInt8))(cuts:List Int)(inn out:Int)
def QS(hrc:∀ r∈rows,r.1=0->r.2=[]):∃ code,Try.f7.body=some code /\
 aj (lG fun fr H=>aB fr 8=.bool true) X (evT X) 7 0 code [(0,.ro c (.pc (rows.map xG)) 1),(1,.int .i64 inn),(2,.int .i64 out),(3,.ro c3 (.pi .i64 cuts) 4)] []:=by
 refine⟨_,rfl,?_⟩;change aj (fun o=>o.ex=.ret/\aB o.fr 8=.bool true) X (evT X) _ _ _ _ _;have hL:=Vl [];have r3:=aiu c c3 rows cuts inn out;apply aj.seq (fr':=xX c c3 rows cuts inn out []) (H':=[])
 .unfold xX;apply Pe;simp[-getElem?_pos,go_sem]
 apply aj.assoc;apply aj.seq (fr':=xX c c3 rows cuts inn out [(31,.bool false)]) (H':=[])
 .unfold xX;apply Pe;simp[-getElem?_pos,go_sem,hL,unV]
 apply aj.seq (fr':=xX c c3 rows cuts inn out [(31,.bool false)]) (H':=[])
 .exact Run.cond (d:=false) (by simp[xX,aJ,aB]) ⟨0,rfl⟩
 clear hL;by_cases hg:10<rows.length\/inn<1\/200<inn\/out<1\/200<out\/3000<cuts.length
 .rw [decide_eq_true hg]at r3;apply aj.assoc;apply aj.seq (piece r3 _ rfl);refine aj.of (o:=⟨.ret,[(8,.bool true)],[]⟩) ⟨0,?_⟩ ⟨rfl,rfl⟩;unfold xX;simp[-getElem?_pos,go_sem]
 rw[decide_eq_false hg]at r3;obtain⟨m,rfl⟩:∃ m:Nat,inn=(m:Nat):=⟨inn.toNat,by omega⟩;obtain⟨ou,rfl⟩:∃ m:Nat,out=(m:Nat):=⟨out.toNat,by omega⟩;have hrl:rows.length<=10:=by omega
 have hm:1<=m:=by omega
 have hm2:m<=200:=by omega
 have hou:1<=ou:=by omega
 have aes:ou<=200:=by omega
 have hct:cuts.length<=3000:=by omega
 apply aj.assoc;apply aj.seq (piece r3 _ rfl);apply aj.seq (fr':=xX c c3 rows cuts (m:Nat) (ou:Nat) [(55,.bool false)]) (H':=[])
 .exact Run.cond (d:=false) (by simp[xX,aJ,aB]) ⟨0,rfl⟩
 clear r3 hg;apply aj.seq (fr':=xX c c3 rows cuts (m:Nat) (ou:Nat) [(9,.sl 0 0 0 0)]) (H':=[jA])
 .unfold xX;apply Pe;simp[-getElem?_pos,go_sem,ak,rowOf,emY,jA]
 apply aj.seq (fr':=xX c c3 rows cuts (m:Nat) (ou:Nat) [(9,.sl 0 0 0 0),(10,.int .u8 0)]) (H':=[jA])
 .unfold xX;apply Pe;simp[-getElem?_pos,go_sem]
 apply aj.assoc;apply aj.seq (fr':=wQ c c3 m ou rows cuts 0 0 0 0 []) (H':=[jA])
 .unfold wQ xX;apply Pe;simp[-getElem?_pos,go_sem]
 apply aj.or (piece (Zf c c3 rows cuts (ou:=ou) (by omega) hm2 hrl hrc) _ rfl);rintro fr E ⟨g,rfl,ob0,k0,w0,hbl⟩;rw[aym (by simp[bds])]at w0 hbl;have hSb:=Lu (m:=m) (bds rows) hbl;have hSl:=yS (m:=m) (by omega) (bds rows) 0;have hbn:(bds rows).length=rows.length:=by simp[bds]
 obtain⟨P,hP⟩:∃ x,x=stm m (bds rows) 0:=⟨_,rfl⟩;have hPl:P.length<=6000:=by rw[hP];omega
 rw[<- hP]at w0 ⊢;obtain⟨ob1,w1,e1⟩:=GK (H:=E) (a:=.sl 0 0 P.length g) (B:=P) (s:=0) (mo:=(ou:Nat)) (th:=(20:Nat)) (Byt.whole k0 w0) (by omega) (.inr (by omega)) (by omega);have hsq:sqR P 0 (ou:Nat) (20:Nat)=(frs ou 20 P.length P 0,fsq ou P.length P 0,0):=by unfold sqR;rw[if_neg (by unfold Ec;omega),ayA,ayA,Wh,ax8]
 rw[hsq]at e1 w1;have hxs:=IX (m:=ou) (th:=20) (f:=P.length) (s:=0) (b:=P) hou (axO _) (by omega);obtain⟨X0,hX0⟩:∃ x,x=frs ou 20 P.length P 0:=⟨_,rfl⟩;obtain⟨fin,hfin⟩:∃ x,x=fsq ou P.length P 0:=⟨_,rfl⟩;simp only at e1 w1;rw[<- hX0,<- hfin]at e1;rw[<- hX0]at w1 hxs;simp only[Int.natCast_zero,azR]at e1;clear hsq;apply aj.seq (fr':=[(0,.ro c (.pc (rows.map xG)) 1),(1,.int .i64 (m:Nat)),(2,.int .i64 (ou:Nat)),(3,.ro c3 (.pi .i64 cuts) 4),(15,.sl E.length 0 X0.length 0),(17,.int .i64 0)]) (H':=E++[some ob1])
 .unfold wQ;generalize X0.length=N at *;generalize P.length=N2 at *;generalize stn m (bds rows) 0=sq at *;apply Pe;simp[-getElem?_pos,go_sem,e1,ak]
 have kZ:(E++[some ob1])[E.length]?=some (some ob1):=Ze;have e2:=aah (m:=ou) (H:=E++[some ob1]) hou (by omega);have hgood:Gq (m:Nat) (100:Nat)=false:=by unfold Gq;simp only[Bool.or_eq_false_iff,decide_eq_false_iff_not];omega
 generalize hZ:E.length=Z at *;generalize hE1:E++[some ob1]=E1 at *;have asa:E1.length=Z+1:=by rw[<- hE1,abB,hZ]
 apply aj.seq (fr':=[(0,.ro c (.pc (rows.map xG)) 1),(1,.int .i64 (m:Nat)),(3,.ro c3 (.pi .i64 cuts) 4),(15,.sl Z 0 X0.length 0),(17,.int .i64 0),(18,.ptr E1.length 0 0 0),(19,.int .i64 0)]) (H':=E1++[some (fK ou 0 (.ro 0 .pn 0) 0)])
 .generalize X0.length=N at *;generalize fK ou 0 (.ro 0 .pn 0) 0=bx at *;apply Pe;simp[-getElem?_pos,go_sem,e2,ak]
 have kr:(E1++[some (fK ou 0 (.ro 0 .pn 0) 0)])[E1.length]?=some (some (fK ou 0 (.ro 0 .pn 0) 0)):=Ze;have kZ2:(E1++[some (fK ou 0 (.ro 0 .pn 0) 0)])[Z]?=some (some ob1):=tK kZ;have hr2:(E1++[some (fK ou 0 (.ro 0 .pn 0) 0)]).length=E1.length+1:=abB;generalize E1++[some (fK ou 0 (.ro 0 .pn 0) 0)]=E2 at *;generalize E1.length=r at *;have e3:=ad7 (H:=E2) hgood;simp only[azR]at e3;have kq:(E2++[some (aX { m:=m,lim:=100 } (.ro 0 .pn 0) (.ro 0 .pn 0) 0)])[E2.length]?=some (some (aX { m:=m,lim:=100 } (.ro 0 .pn 0) (.ro 0 .pn 0) 0)):=Ze;have hq2:(E2++[some (aX { m:=m,lim:=100 } (.ro 0 .pn 0) (.ro 0 .pn 0) 0)]).length=E2.length+1:=abB;have kr3:=tK (r:=[some (aX { m:=m,lim:=100 } (.ro 0 .pn 0) (.ro 0 .pn 0) 0)]) kr;have kZ3:=tK (r:=[some (aX { m:=m,lim:=100 } (.ro 0 .pn 0) (.ro 0 .pn 0) 0)]) kZ2;apply aj.seq (fr':=IC c c3 rows cuts [(15,.sl Z 0 X0.length 0),(17,.int .i64 0),(18,.ptr r 0 0 0),(19,.int .i64 0),(20,.ptr E2.length 0 0 0),(21,.int .i64 0)]) (H':=E2++[some (aX { m:=m,lim:=100 } (.ro 0 .pn 0) (.ro 0 .pn 0) 0)])
 .unfold IC;generalize X0.length=N at *;generalize aX { m:=m,lim:=100 } (.ro 0 .pn 0) (.ro 0 .pn 0) 0=bx at *;apply Pe;simp[-getElem?_pos,go_sem,e3,ak]
 generalize E2++[some (aX { m:=m,lim:=100 } (.ro 0 .pn 0) (.ro 0 .pn 0) 0)]=E3 at *;obtain⟨q,hq⟩:∃ x,x=E2.length:=⟨_,rfl⟩;rw[<- hq]at kq e3 hq2 ⊢;apply aj.assoc;apply aj.seq (piece (aer (c:=c) (c3:=c3) (rows:=rows) (cuts:=cuts) (z:=Z) (XL:=X0.length) ⟨_,kr3,rfl⟩ ⟨_,kq,rfl⟩) _ rfl);apply aj.seq (fr':=IC c c3 rows cuts [(15,.sl Z 0 X0.length 0),(18,.ptr r 0 0 0),(20,.ptr q 0 0 0),(119,.bool false)]) (H':=E3)
 .exact Run.cond (d:=false) (by simp[IC,aJ,aB]) ⟨0,rfl⟩
 have kT:(E3++[some vS])[E3.length]?=some (some vS):=Ze;have hT2:(E3++[some vS]).length=E3.length+1:=abB;have kr4:=tK (r:=[some vS]) kr3;have kZ4:=tK (r:=[some vS]) kZ3;have kq4:=tK (r:=[some vS]) kq;apply aj.seq (fr':=IC c c3 rows cuts [(15,.sl Z 0 X0.length 0),(18,.ptr r 0 0 0),(20,.ptr q 0 0 0),(22,.sl E3.length 0 0 0)]) (H':=E3++[some vS])
 .unfold IC;generalize X0.length=N at *;apply Pe;simp[-getElem?_pos,go_sem,ak,emK]
 generalize E3++[some vS]=E4 at *;generalize hT:E3.length=T at *;obtain⟨obC,l,hl,hwC,e4⟩:=U2 (t:=4) (c1:=c3) (cuts:=cuts) kZ4 w1 (by omega) (by omega);obtain⟨chs,abC⟩:∃ x,x=chk X0 cuts:=⟨_,rfl⟩;have hfl:chs.flatten=X0:=by rw[abC];exact Nb _ _
 have hcl:chs.length<=3001:=by rw[abC];have:=KN X0 cuts;omega
 have hcp:0<chs.length:=by rw[abC];exact Tm _ _
 rw[<- abC]at e4 hl;have kC:(AM.upd E4 Z none++[some obC])[E4.length]?=some (some obC):=by
  have:(AM.upd E4 Z none).length=E4.length:=by simp[AM.upd]
  rw[<- this];exact Ze
 have kr5:(AM.upd E4 Z none++[some obC])[r]?=some (some (fK ou 0 (.ro 0 .pn 0) 0)):=tK (by unfold AM.upd;exact rV kr4 (by omega));have kq5:(AM.upd E4 Z none++[some obC])[q]?=some (some (aX { m:=m,lim:=100 } (.ro 0 .pn 0) (.ro 0 .pn 0) 0)):=tK (by unfold AM.upd;exact rV kq4 (by omega));have kT5:(AM.upd E4 Z none++[some obC])[T]?=some (some vS):=tK (by unfold AM.upd;exact rV kT (by omega));generalize AM.upd E4 Z none++[some obC]=E5 at *;generalize hC:E4.length=C at *;apply aj.seq (fr':=[(0,.ro c (.pc (rows.map xG)) 1),(18,.ptr r 0 0 0),(20,.ptr q 0 0 0),(22,.sl T 0 0 0),(23,.sl C 0 chs.length 0)]) (H':=E5)
 .unfold IC;generalize X0.length=N at *;generalize chs.length=M at *;apply Pe;simp[-getElem?_pos,go_sem,e4,ak]
 have hV0:QV ou 0 E5 r none 0 [] 0:=⟨⟨_,0,.inl rfl,kr5,rfl,rfl,0,.inl rfl,rfl⟩,fun a g h=>by cases h⟩;refine piece (aby (fin:=fin) (fn0:=stn m (bds rows) 0) hm hm2 hou aes hrc hrl hbl hcl hcp ⟨⟨none,0,[],0,P,{ m:=m,lim:=100 },none,none,bds rows,hV0,⟨by rw[ayZ,ax8,ayZ,hfl,hX0],hfin.symm,by omega,by omega⟩,.inl (by simp),by simp,⟨⟨_,_,0,.inl rfl,kq5,⟨0,.inl rfl,rfl,rfl⟩,⟨0,.inl rfl,rfl,rfl⟩⟩,fun a c h=>(by cases h),fun _=>rfl⟩,⟨rfl,rfl,rfl,(by show 0<256;omega),?_⟩,rfl,fun h=>absurd rfl h,fun a g h=>(by cases h),by simp[rdπ];omega,by simp[rdπ];omega,by simp[rdπ];omega⟩,aev kT5,⟨obC,l,kC,hl,hwC⟩,by omega,by omega,by omega⟩) _ rfl;cases hb:bds rows with
 | nil=>exact⟨by simp[hP,hb,stm],rfl,rfl⟩
 | cons cur r=>exact⟨cur,rfl,by simp[hP,hb,stm],rfl⟩
end
end Go.Proofs.Ytbodincpjijdiaa
