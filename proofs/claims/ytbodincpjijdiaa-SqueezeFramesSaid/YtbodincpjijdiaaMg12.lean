/- U1 to YQ9: texts of this claim, one behind the other; what each shows stands at its head. -/
import Derived.Test.YtbodincpjijdiaaAm4
import Derived.Test.YtbodincpjijdiaaMg11
set_option linter.defProp false
set_option linter.unusedSimpArgs false
set_option linter.unusedVariables false
set_option maxRecDepth 100000
set_option maxHeartbeats 8000000
namespace Go.Proofs.Ytbodincpjijdiaa
open Go.AM
def ChA(x:List UInt8)(v:AV):Prop:=∃ cb τ,(cb=0->x=[])/\v=.ro cb (.pb x) τ
def ChL:List (List UInt8)->List AV->Prop
 | [],[]=>True
 | x::r,v::l=>ChA x v/\ChL r l
 | _,_=>False
def Fe:∀ {l:List (List UInt8)} {m:List AV},ChL l m->m.length=l.length
 | [],[],_=>rfl
 | _::_,_::_,h=>by simp[Fe h.2]
 | [],_::_,h=>h.elim
 | _::_,[],h=>h.elim
def Gn{a:List UInt8}{b:AV}:∀ {l:List (List UInt8)} {m:List AV},ChL l m->ChA a b->ChL (l++[a]) (m++[b])
 | [],[],_,h=>⟨h,trivial⟩
 | _::_,_::_,h,h2=>⟨h.1,Gn h.2 h2⟩
 | [],_::_,h,_=>h.elim
 | _::_,[],h,_=>h.elim
def Ti:∀ {l:List (List UInt8)} {m:List AV},ChL l m->aC m=[]
 | [],[],_=>rfl
 | _::_,_::_,⟨⟨cb,τ,_,rfl⟩,h⟩=>by simp[aC,ids,Ti h]
 | [],_::_,h=>h.elim
 | _::_,[],h=>h.elim
def Tj{τ:Nat->Nat}:∀ {l:List (List UInt8)} {m:List AV},ChL l m->ChL l (bU (fun _ _=>none) τ m)
 | [],[],_=>trivial
 | _::_,_::_,⟨⟨cb,t,h1,rfl⟩,h⟩=>⟨⟨cb,τ t,h1,by simp[ren]⟩,Tj h⟩
 | [],_::_,h=>h.elim
 | _::_,[],h=>h.elim
def YG{x:List UInt8}:∀ {i:Nat} {l:List (List UInt8)} {m:List AV},ChL l m->l[i]?=some x->∃ v,m[i]?=some v/\ChA x v
 | 0,q::r,v::l,h,hi=>by
  simp at hi;subst hi;exact⟨v,rfl,h.1⟩
 | i+1,q::r,v::l,h,hi=>by
  obtain⟨w,h1,h2⟩:=YG (i:=i) h.2 (by simpa using hi);exact⟨w,by simpa using h1,h2⟩
 | _,[],_,_,hi=>by simp at hi
 | _,_::_,[],h,_=>h.elim
def ad2(a b:Int):kP false (.int .i64 a) [.int .i64 b]=some (.int .i64 (if b<a then b else a)):=by simp[kP]
def YH:∀ {l:List (List UInt8)} {m:List AV},ChL l m->0<l.length->aW m≠[]
 | _::_,_::_,⟨⟨cb,τ,_,rfl⟩,_⟩,_=>by simp[aW,tags]
 | [],_,_,h=>by simp at h
 | _::_,[],h,_=>h.elim
def chk:List UInt8->List Int->List (List UInt8)
 | b,[]=>[b]
 | b,x::r=>if b.length=0 then[b]else b.take (min (pk x 8) b.length)::chk (b.drop (min (pk x 8) b.length)) r
def Nb:∀ (b:List UInt8) (l:List Int),(chk b l).flatten=b
 | b,[]=>by simp[chk]
 | b,x::r=>by
  unfold chk;split
  .simp
  .rw [List.flatten_cons,Nb,azq]
def Tm:∀ (b:List UInt8) (l:List Int),0<(chk b l).length
 | b,[]=>by simp[chk]
 | b,x::r=>by unfold chk;split<;>simp
def KN:∀ (b:List UInt8) (l:List Int),(chk b l).length<=l.length+1
 | b,[]=>by simp[chk]
 | b,x::r=>by
  unfold chk;split
  .simp
  .have:=KN (b.drop (min (pk x 8) b.length)) r;simp only[axY];omega
def YI{H:AM.Heap}{o g τ:Nat}{ob:AM.Obj}{l:List AV}{v src:AV}(ho:H[o]?=some (some ob))(h:RwT (.pc l) g τ ob)(hτ:τ=0\/τ=1)(hsrc:gJ H src=some (.pc [v],1))(hn:l.length<=1000000) :
 ∃ ob',RwT (.pc (l++[v])) (g+1) 1 ob'/\bG X H 38 (.sl o 0 l.length g) src=some (.sl o 0 (l.length+1) (g+1),upd H o (some ob')):=by
 have hlive:live H o g=some ob:=by simp[live,ho,h.g]
 have hroom:dQ X 22 (l.length+1)=true:=by simp[dQ];omega
 have hj:dJ τ 1=some 1:=by rcases hτ with rfl|rfl<;>rfl
 refine⟨{ ob with p:=.pc (l++[v]),g:=g+1,cap:=(match ob.cap with|some c=>if 0+l.length+AM.ah (.pc [v])<=c then some (c-0)else none|none=>none),z:=(if AM.ah ob.p=0 then ob.z else 1),tg:=1 },⟨rfl,rfl,h.row,h.ids,rfl⟩,?_⟩;unfold bG;simp only[acR,Ya,agF,hsrc,hlive,h.row,h.ids,h.p,h.tg];rw[if_neg (by simp)];have hc:True/\True/\0+l.length=AM.ah (.pc l)/\aS (.pc l)=1/\dQ X 22 (l.length+AM.ah (.pc [v]))=true:=⟨trivial,trivial,by simp[AM.ah],rfl,by simpa[AM.ah]using hroom⟩;rw[if_pos hc];simp only[gq,ayg,axO,if_true,ayZ,ayM,l9,hj,aS];simp[AM.ah];rfl
def bsC(H:AM.Heap)(c:Nat)(p:AV)(t:Nat):bT X H 38 1 [(0,.ro c p t)]=some (.ro 1 (.pc [.ro c p t]) t,H):=by
 have hz:bD X 22=.ro 0 .pn 0:=by kernel_rfl
 have hm:mkRow X 22 [.ro c p t]=some (.pc [.ro c p t]):=rfl;have hj:bY [t]=some t:=by
  by_cases h:t=0
  .subst h;rfl
  .simp [bY,dJ,h]
 simp only[bT,acR,Ya,hz];simp[eF,scalars,scalar,iY,qN,hm,aC,ids,aW,tags,hj]
section
variable (c1:Nat)(cuts:List Int)
def qQ(c:Nat)(b:List UInt8)(o N g i:Nat)(tl:AM.Frame):AM.Frame:=[(0,.ro c (.pb b) 1),(1,.ro c1 (.pi .i64 cuts) 2),(5,.sl o 0 N g),(6,.int .i64 (i:Nat))]++tl
def acS{c t n:Nat}{b:List UInt8}(hn:n<=b.length)(H:AM.Heap):gY X H 22 (.ro c (.pb b) t) none (some (.int .i64 (n:Nat)))=some (.ro (if c=0 then 0 else 2) (.pb (b.take n)) t):=by
 have h2:(n:Int)<=(b.length:Int):=by omega
 simp[gY,bound,ah,aS,gq,h2,hn]
def acT{c t n:Nat}{b:List UInt8}(hn:n<=b.length)(H:AM.Heap):gY X H 22 (.ro c (.pb b) t) (some (.int .i64 (n:Nat))) none=some (.ro c (.pb (b.drop n)) t):=by
 have h2:(n:Int)<=(b.length:Int):=by omega
 have h3:(b.drop n).take (b.length-n)=b.drop n:=aym (by simp);simp[gY,bound,ah,aS,gq,h2,hn,h3];omega
def ah5{H:AM.Heap}(c:Nat)(b:List UInt8)(o N g i:Nat):∃ code,Try.f19.body.bind (ay [1,1,0,1,0,0,0,0])=some code/\Run X (evT X) 19 0 code (qQ c1 cuts c b o N g i []) H ⟨.normal,qQ c1 cuts c b o N g i [(16,.bool (decide (i<cuts.length/\0<b.length)))],H⟩:=by
 refine⟨_,rfl,?_⟩;by_cases h1:i<cuts.length
 .have h1I:(i:Int)<(cuts.length:Int):=by omega
  by_cases h2:0<b.length
  .have h2I:(0:Int)<(b.length:Int):=by omega
   rw[show decide (i<cuts.length/\0<b.length)=true from decide_eq_true ⟨h1,h2⟩];unfold qQ;apply Pe;simp[-getElem?_pos,go_sem,h1,h1I,h2,h2I]
  .have h2I:¬ (0:Int)<(b.length:Int):=by omega
   rw[show decide (i<cuts.length/\0<b.length)=false from decide_eq_false (fun h=>h2 h.2)];unfold qQ;apply Pe;simp[-getElem?_pos,go_sem,h1,h1I,h2,h2I]
 .have h1I:¬ (i:Int)<(cuts.length:Int):=by omega
  rw[show decide (i<cuts.length/\0<b.length)=false from decide_eq_false (fun h=>h1 h.1)];unfold qQ;apply Pe;simp[-getElem?_pos,go_sem,h1,h1I]
def ah6{H:AM.Heap}(c:Nat)(b:List UInt8)(o N g i:Nat)(x:Int)(hx:cuts[i]?=some x)(hb:b.length<=1000000):∃ code,Try.f19.body.bind (ay [1,1,0,1,0,0,1,0,0,0])=some code/\Run X (evT X) 19 0 code (qQ c1 cuts c b o N g i [(16,.bool true)]) H ⟨.normal,qQ c1 cuts c b o N g i [(7,.int .i64 (min (pk x 8) b.length:Nat))],H⟩:=by
 refine⟨_,rfl,?_⟩;have h1:=eX hx;have h1I:(i:Int)<(cuts.length:Int):=by omega
 have hP:=aa7 (H:=H) (x:=x) (n:=8) (by omega) (by omega);have hmin:(if(b.length:Int)<(pk x 8:Int)then(b.length:Int)else(pk x 8:Int))=((min (pk x 8) b.length:Nat):Int):=by split<;>omega
 have ah7:(if b.length<pk x 8 then(b.length:Int)else(pk x 8:Int))=((min (pk x 8) b.length:Nat):Int):=by split<;>omega
 simp only[azR]at hP;generalize hk:pk x 8=k at *;generalize min k b.length=n at *;unfold qQ;apply Pe;simp[-getElem?_pos,go_sem,h1,h1I,hx,hP,ad2,hmin,ah7]
def ad3{H:AM.Heap}(c:Nat)(b:List UInt8)(o g i n τ:Nat)(l:List AV)(acc:List (List UInt8))(ob:AM.Obj)(hc:c=0->b=[])(hn:n<=b.length)(ho:H[o]?=some (some ob))(hw:RwT (.pc l) g τ ob)(hτ:τ=0\/τ=1)(hl:ChL acc l)(hN:acc.length<=1000000) :
 ∃ H' l' ob',ChL (acc++[b.take n]) l'/\H'[o]?=some (some ob')/\RwT (.pc l') (g+1) 1 ob'/\∀ cd6 cd7,Try.f19.body.bind (ay [1,1,0,1,0,0,1,0,0,1,0])=some cd6->Try.f19.body.bind (ay [1,1,0,1,0,0,1,0,0,1,1])=some cd7->Run X (evT X) 19 0 (.seq cd6 cd7) (qQ c1 cuts c b o acc.length g i [(7,.int .i64 (n:Nat))]) H ⟨.normal,qQ c1 cuts c (b.drop n) o (acc.length+1) (g+1) i [],H'⟩:=by
 have hll:=Fe hl;have hB:=acS (c:=c) (t:=1) hn H;have hS:=bsC H (if c=0 then 0 else 2) (.pb (b.take n)) 1;obtain⟨ob',w1,w2⟩:=YI (v:=.ro (if c=0 then 0 else 2) (.pb (b.take n)) 1) (src:=.ro 1 (.pc [.ro (if c=0 then 0 else 2) (.pb (b.take n)) 1]) 1) ho hw hτ (by simp[gJ,jq,kH]) (by omega);rw[hll]at w2;have hE:=acT (c:=c) (t:=1) hn (upd H o (some ob'));refine⟨upd H o (some ob'),_,ob',Gn hl ⟨_,1,?_,rfl⟩,setAt ho,w1,fun cd6 cd7 e6 e7=>?_⟩
 .intro h0;by_cases h:c=0
  .rw [hc h];simp
  .rw [if_neg h]at h0;cases h0
 have r6:Run X (evT X) 19 0 cd6 (qQ c1 cuts c b o acc.length g i [(7,.int .i64 (n:Nat))]) H ⟨.normal,qQ c1 cuts c b o (acc.length+1) (g+1) i [(7,.int .i64 (n:Nat))],upd H o (some ob')⟩:=by refine piece (P:=fun cd=>Run X (evT X) _ 0 cd _ _ _) ⟨_,rfl,?_⟩ _ e6;generalize (if c=0 then 0 else 2)=c2 at *;generalize acc.length=N at *;unfold qQ;apply Pe;simp[-getElem?_pos,go_sem,hB,hS,w2,ak]
 refine Run.seq r6 (piece (P:=fun cd=>Run X (evT X) _ 0 cd _ _ _) ⟨_,rfl,?_⟩ _ e7);generalize upd H o (some ob')=H' at *;unfold qQ;apply Pe;simp[-getElem?_pos,go_sem,hE,ak]
def ah8:rowOf (dh X 22) .none 0=⟨.pc [],0,.none,0,true,false,0⟩:=by kernel_rfl
def Nc(c:Nat)(b:List UInt8)(hc:c=0->b=[])(hb:b.length<=1000000)(hcl:cuts.length<=100000):∃ code,Try.f19.body=some code /\
 aj (lG fun fr H1=>∃ o g ob l,ChL (chk b cuts) l/\aB fr 4=.sl o 0 (chk b cuts).length g/\H1[o]?=some (some ob)/\RwT (.pc l) g 1 ob) X (evT X) 19 0 code [(0,.ro c (.pb b) 1),(1,.ro c1 (.pi .i64 cuts) 2)] []:=by
 refine⟨_,rfl,?_⟩;apply aj.seq (fr':=[(0,.ro c (.pb b) 1),(1,.ro c1 (.pi .i64 cuts) 2)]) (H':=[some ⟨.pc [],0,.none,0,true,false,0⟩])
 .apply Pe;simp[-getElem?_pos,go_sem,ak,ah8]
 apply aj.seq (fr':=[(0,.ro c (.pb b) 1),(1,.ro c1 (.pi .i64 cuts) 2),(5,.sl 1 0 0 0)]) (H':=[some ⟨.pc [],0,.none,0,true,false,0⟩,some ⟨.pc [],0,.none,0,true,false,0⟩])
 .apply Pe;simp[-getElem?_pos,go_sem,ak,ah8]
 apply aj.assoc;apply aj.seq (fr':=qQ c1 cuts c b 1 0 0 0 []) (H':=[some ⟨.pc [],0,.none,0,true,false,0⟩,some ⟨.pc [],0,.none,0,true,false,0⟩])
 .unfold qQ;apply Pe;simp[-getElem?_pos,go_sem]
 apply aj.andThen (P:=fun fr H=>∃ c2 b2 o g i l ob acc τ,fr=qQ c1 cuts c2 b2 o acc.length g i [(16,.bool false)]/\(c2=0->b2=[])/\ChL acc l/\H[o]?=some (some ob)/\RwT (.pc l) g τ ob/\(τ=0\/τ=1)/\acc++[b2]=chk b cuts)
 .refine aj.block (P:=fun fr H=>∃ c2 b2 o g i l ob acc τ,fr=qQ c1 cuts c2 b2 o acc.length g i [(16,.bool false)]/\(c2=0->b2=[])/\ChL acc l/\H[o]?=some (some ob)/\RwT (.pc l) g τ ob/\(τ=0\/τ=1)/\acc++[b2]=chk b cuts) ?_;refine aj.jP (fun k fr H=>∃ b2 o g i l ob acc τ,k=cuts.length-i/\i<=cuts.length/\acc.length=i/\fr=qQ c1 cuts c b2 o acc.length g i []/\(c=0->b2=[])/\b2.length<=1000000/\ChL acc l/\H[o]?=some (some ob)/\RwT (.pc l) g τ ob/\(τ=0\/τ=1)/\acc++chk b2 (cuts.drop i)=chk b cuts) ?_ (k:=cuts.length) ⟨b,1,0,0,[],_,[],0,rfl,by omega,rfl,rfl,hc,hb,trivial,rfl,⟨rfl,rfl,rfl,rfl,rfl⟩,.inl rfl,rfl⟩;rintro k fr H ⟨b2,o,g,i,l,ob,acc,τ,rfl,hi,hai,rfl,hc2,hb2,hl,ho,hw,hτ,hX⟩;apply aj.assoc;apply aj.seq (piece (ah5 c1 cuts c b2 o acc.length g i) _ rfl);by_cases hgo:i<cuts.length/\0<b2.length
  .rw [show decide (i<cuts.length/\0<b2.length)=true from decide_eq_true hgo];apply aj.seq (fr':=qQ c1 cuts c b2 o acc.length g i [(16,.bool true)]) (H':=H)
   .exact Run.cond (d:=true) rfl ⟨0,rfl⟩
   obtain⟨x,hx⟩:∃ x,cuts[i]?=some x:=⟨_,axI hgo.1⟩;have hdr:cuts.drop i=x::cuts.drop (i+1):=by obtain⟨h1,h2⟩:=axK.1 hx;rw[ayz h1,h2]
   rw[hdr,chk,if_neg (by omega)]at hX;have r5:=ah6 c1 cuts (H:=H) c b2 o acc.length g i x hx hb2;obtain⟨n,hn⟩:∃ n,n=min (pk x 8) b2.length:=⟨_,rfl⟩;rw[<- hn]at hX r5;obtain⟨H',l',ob',k1,k2,k3,k4⟩:=ad3 c1 cuts (H:=H) c b2 o g i n τ l acc ob hc2 (by omega) ho hw hτ hl (by omega);have w1:IntKind.i64.wrap ((i:Int)+1)=((i+1:Nat):Int):=by rw[wrap_i64 (by omega) (by omega)];omega
   apply aj.andThen (P:=fun fr H''=>fr=qQ c1 cuts c (b2.drop n) o (acc.length+1) (g+1) i []/\H''=H')
   .refine aj.blk ?_ (fun o h=>by rw[h.1];simp);exact aj.seq (piece r5 _ rfl) (aj.of (k4 _ _ rfl rfl) ⟨rfl,rfl,rfl⟩)
   rintro fr H'' ⟨rfl,rfl⟩;refine aj.of (o:=⟨.normal,qQ c1 cuts c (b2.drop n) o (acc.length+1) (g+1) (i+1) [],H''⟩) ⟨0,?_⟩ (.inl ⟨rfl,cuts.length-(i+1),by omega,b2.drop n,o,g+1,i+1,l',ob',acc++[b2.take n],1,rfl,by omega,by simp[hai],by simp,fun h=>by rw[hc2 h];simp,by simp;omega,k1,k2,k3,.inr rfl,by rw[<- hX];simp⟩);unfold qQ;generalize acc.length + 1=N at *;simp[-getElem?_pos,go_sem,w1]
  .rw [show decide (i<cuts.length/\0<b2.length)=false from decide_eq_false hgo];refine aj.of (o:=⟨.exit 0,qQ c1 cuts c b2 o acc.length g i [(16,.bool false)],H⟩) (Run.bK (Run.cond (d:=false) rfl ⟨0,rfl⟩) (by simp)) (.inr ⟨by simp,rfl,c,b2,o,g,i,l,ob,acc,τ,rfl,hc2,hl,ho,hw,hτ,?_⟩);rw[<- hX];congr 1;by_cases hil:i<cuts.length
   .have hb0:b2.length=0:=by omega
    have hdr:=ayz hil;rw[hdr,chk,if_pos hb0]
   .rw [azm (by omega)];rfl
 rintro fr H ⟨c2,b2,o,g,i,l,ob,acc,τ,rfl,hc2,hl,ho,hw,hτ,hX⟩;have hll:=Fe hl;have ah9:=KN b cuts;rw[<- hX]at ah9 ⊢;simp only[axR,axY,ax3]at ah9 ⊢;have hS:=bsC H c2 (.pb b2) 1;obtain⟨ob',w1,w2⟩:=YI (v:=.ro c2 (.pb b2) 1) (src:=.ro 1 (.pc [.ro c2 (.pb b2) 1]) 1) ho hw hτ (by simp[gJ,jq,kH]) (by omega);rw[hll]at w2;refine aj.of (o:=⟨.ret,[(4,.sl o 0 (acc.length+1) (g+1))],upd H o (some ob')⟩) ⟨0,?_⟩ ⟨rfl,o,g+1,ob',_,Gn hl ⟨c2,1,hc2,rfl⟩,rfl,setAt ho,w1⟩;unfold qQ;generalize acc.length=N at *;simp[-getElem?_pos,go_sem,hS,w2,ak]
end
def U2{H:AM.Heap}{bo g t c1:Nat}{ob:AM.Obj}{b:List UInt8}{cuts:List Int}(ho:H[bo]?=some (some ob))(hw:Rw (.pb b) g ob)(hb:b.length<=1000000)(hcl:cuts.length<=100000) :
 ∃ ob' l,ChL (chk b cuts) l/\Rw (.pc l) 0 ob'/\evT X 19 [.sl bo 0 b.length g,.ro c1 (.pi .i64 cuts) t] H=some (.sl H.length 0 (chk b cuts).length 0,upd H bo none++[some ob']):=by
 have hlive:live H bo g=some ob:=by simp[live,ho,hw.g]
 have arQ:X.rw 19 0=false:=rfl;have hrw1:X.rw 19 1=false:=rfl;have hl:aH X 19 H 0 [.sl bo 0 b.length g,.ro c1 (.pi .i64 cuts) t]=some ([.ro (if ob.z=0/\AM.ah ob.p=0 then 0 else 2) (.pb b) 1,.ro c1 (.pi .i64 cuts) 2],[⟨[bo],[0]⟩,⟨[],[t]⟩]):=by simp only[aH,arQ,hrw1,dY,dS,hlive,hw.ids,hw.p,hw.tg,gq];simp
 have hc0:(if ob.z=0/\AM.ah ob.p=0 then 0 else 2)=0->b=[]:=by
  intro h;split at h
  .rename_i h2;rw[hw.p]at h2;exact ayk h2.2
  .cases h
 obtain⟨code,hcode,o,⟨he,o1,g1,ob1,l,h1,h4,h5,h6⟩,hr⟩:=Nc c1 cuts _ b hc0 hb hcl;obtain⟨ob',l',k1,k2,k3⟩:=Ev1.adN (C:=X) (H:=H) (n:=(chk b cuts).length) (rest:=[]) (P:=ChL (chk b cuts)) (bC X) Try.func19 hcode hl rfl (by simp[aC,ids]) (by simp[dA]) rfl rfl rfl (fun l h=>Ti h) (fun l h=>YH h (Tm b cuts)) (fun l τ h=>Tj h)
  ⟨o,⟨he,o1,g1,ob1,l,h1,by show some [aB o.fr 4]=_;rw[h4],h5,h6.p,h6.g,h6.row,h6.ids,h6.tg⟩,by rw[aga];exact hr⟩
 exact⟨ob',l',k1,k2,dI k3⟩
def KO{α:Type}{H r:List α}{j:Nat}{y:α}(h:H[j]?=some y):(H++r)[j]?=some y:=by
 rw[axL]
 .exact h
 .exact (axK.1 h).1
def jo{α:Type}{H:List α}{j:Nat}{y:α}(h:H[j]?=some y):j<H.length:=(axK.1 h).1
def at_set{α:Type}{H:List α}{j:Nat}{y x:α}(h:H[j]?=some y):(H.set j x)[j]?=some x:=by
 rw[ayx (jo h)]
def oN{α:Type}{H:List α}{j k:Nat}{y x:α}(h:H[j]?=some y)(hne:k≠j):(H.set k x)[j]?=some y:=by
 rw[axU hne];exact h
def bsK(H:AM.Heap)(y:UInt8)(k:Int)(h:(y.toNat:Int)=k):bT X H 22 1 [(0,.int .u8 k)]=some (.ro 1 (.pb [y]) 0,H):=by
 subst h;exact bs1 H y
def acU{k:Nat}(h:k<256):IntKind.u8.wrap ((k:Int)+1)=(((k+1)%256:Nat):Int):=by
 unfold IntKind.wrap;simp[IntKind.signed,IntKind.bits]
def hdB(n s:Nat):List UInt8:=leB 3 n++[UInt8.ofNat s]
def Fg(n s:Nat):(hdB n s).length=4:=by unfold hdB;rw[axR,kU];rfl
def spS(m:Nat):Nat->List UInt8->List UInt8->Nat->List UInt8×Nat
 | 0,out,_,s=>(out,s)
 | f+1,out,b,s=>
  if b.length<m then(out++(hdB b.length s++b),(s+1)%256)
  else spS m f (out++(hdB m s++b.take m)) (b.drop m) ((s+1)%256)
def split(b:List UInt8)(s:Nat)(m:Int):List UInt8×Nat×Int :=
 if m<1\/16777215<m then([],0,2)else if 1073741824<b.length then([],0,3)else((spS m.toNat (b.length+1) [] b s).1,(spS m.toNat (b.length+1) [] b s).2,0)
def arR{c t n:Nat}{b:List UInt8}(hc:c=0->b=[])(hn:n<=b.length)(H:AM.Heap):gY X H 22 (.ro c (.pb b) t) none (some (.int .i64 (n:Nat)))=some (.ro (if c=0 then 0 else 2) (.pb (b.take n)) t):=acS hn H
def ad4{c t n:Nat}{b:List UInt8}(hc:c=0->b=[])(hn:n<=b.length)(H:AM.Heap):gY X H 22 (.ro c (.pb b) t) (some (.int .i64 (n:Nat))) none=some (.ro c (.pb (b.drop n)) t):=acT hn H
def aia{H:AM.Heap}{a:AV}{b:List UInt8}{n:Nat}(h:Byt H a b)(hb:b.length<=90000000) :
 evT X 39 [a,.int .i64 (n:Nat)] H=some (.tup [.int .u64 (rfR b n).1,.int .i64 (rfR b n).2],H):=by
 obtain⟨c,p,xl,hp,hc,hx'⟩:=sD (C:=X) (f:=39) (i:=0) rfl h (dX (i:=1) (a:=.int .i64 (n:Nat)) rfl rfl (dR 2));obtain⟨code,hcode,hr⟩:=wU (evT X) c b n (by omega);refine dI (Ev1.rU (l:=[.int .u64 (rfR b n).1,.int .i64 (rfR b n).2]) (bC X) Try.func39 hcode hx' (by simp[aC,ids,hp.ids]) (by simp[dA]) rfl rfl rfl ?_);rw[acF,coB hp];exact⟨_,⟨rfl,rfl⟩,hr⟩
def ad5:Qk X 6 5=true:=by kernel_rfl
def bdM(m:Int):Bool:=decide (1<=m/\m<=16777215)
def aa8(m:Int):∃ code,Try.f31.body=some code /\
 Run X (evT X) 31 0 code [(0,.int .i64 m)] [] ⟨.ret,[(2,.bool (bdM m))],[]⟩:=by
 refine⟨_,rfl,0,?_⟩;unfold bdM;by_cases h:1<=m
 .simp [-getElem?_pos,go_sem,h]
 .simp [-getElem?_pos,go_sem,h]
def acV(m:Int)(H:AM.Heap):evT X 31 [.int .i64 m] H=some (.bool (bdM m),H):=by
 obtain⟨code,hcode,hr⟩:=aa8 m;exact dI (Ev1.rU (l:=[.bool (bdM m)]) (bC X) Try.func31 hcode (dX (i:=0) rfl rfl (dR 1)) rfl (by simp[dA]) rfl rfl rfl ⟨_,⟨rfl,rfl⟩,by rw[agi];exact hr⟩)
section
variable (c:Nat)(m:Nat)
def Gp(b:List UInt8)(s o g:Nat)(out:List UInt8):AM.Frame:=[(0,.ro c (.pb b) 1),(1,.int .u8 (s:Nat)),(2,.int .i64 (m:Nat)),(9,.sl o 0 out.length g)]
def Di(b:List UInt8)(s o g N n:Nat):AM.Frame:=[(0,.ro c (.pb b) 1),(1,.int .u8 (s:Nat)),(2,.int .i64 (m:Nat)),(9,.sl o 0 N g),(10,.int .i64 (n:Nat))]
def aib(b out:List UInt8)(s o g n:Nat)(ob:AM.Obj)(H:AM.Heap)(hs:s<256)(hc:c=0->b=[])(hn:n<=b.length)(hb:b.length<=1000000)(hN:out.length<=90000000)(ho:H[o]?=some (some ob))(hw:Rw (.pb out) g ob) :
 ∃ ob',Rw (.pb (out++UInt8.ofNat s::b.take n)) (g+2) ob'/\∃ code,Try.f22.body.bind (ay [1,1,1,1,0,0,0,1,1,0])=some code/\Run X (evT X) 22 0 code (Di c m b s o g out.length n) H ⟨.normal,Di c m b s o (g+2) (out++UInt8.ofNat s::b.take n).length n,upd H o (some ob')⟩:=by
 have hsl:=fun H=>arR (c:=c) (t:=1) hc hn H;obtain⟨ob1,hw1,hA1⟩:=YJ (H:=H) (o:=o) (m:=[UInt8.ofNat s]) (src:=.ro 1 (.pb [UInt8.ofNat s]) 0) ho hw (.inl rfl) (by simp;omega);have ho1:(upd H o (some ob1))[o]?=some (some ob1):=at_set ho;obtain⟨ob2,hw2,hA2⟩:=YJ (H:=upd H o (some ob1)) (o:=o) (m:=b.take n) (src:=.ro (if c=0 then 0 else 2) (.pb (b.take n)) 1) ho1 hw1 (.inl (by simp[gJ,jq,kH])) (by simp;omega);have hup:upd (upd H o (some ob1)) o (some ob2)=upd H o (some ob2):=by unfold upd;simp
 rw[hup]at hA2;refine⟨ob2,by simpa using hw2,_,rfl,?_⟩;have hbs:=fun H=>bsK H (UInt8.ofNat s) (s:Nat) (by rw[ayU,ayN hs]);have hl2:(out++UInt8.ofNat s::b.take n).length=out.length+1+(b.take n).length:=by simp;omega
 rw[hl2];simp only[axR,axY,ax3,ayg,upd]at hA1 hA2;have hlt:=jo ho;unfold Di;generalize (b.take n).length=k at *;generalize (if c=0 then 0 else 2)=c' at *;apply Run.dy (by simp) X7 (by simp)
 ·(conv=>lhs;simp[-getElem?_pos,go_sem,jX,out1,dw,nS,jY,pushes,kK,iP,touched,mentioned,jr,gK,dM,nT,Op.operands,ids,aC,aH,dY,dS,iC,lN,hbs,hA1,hA2,hsl,ak,ad5])
  rfl
 .refine kM (ps:=[(0,1),(0,2),(0,4),(1,4),(2,4),(3,4),(0,5),(1,5),(2,5),(3,5),(4,5),(0,6),(1,6),(2,6),(3,6)]) (by kernel_rfl) ?_;simp[y7,bear,disjoint,oZ,Call.operands,aJ,aB,aC,ids]
 .rfl
def spQ(x:List UInt8×Nat×Int)(fr:AM.Frame)(H:AM.Heap):Prop:=∃ o g ob,aB fr 6=.sl o 0 x.1.length g/\aB fr 7=.int .u8 (x.2.1:Nat)/\aB fr 8=.int .i64 x.2.2/\H[o]?=some (some ob)/\Rw (.pb x.1) g ob
def aa9(b0:List UInt8)(s0 o0 f0:Nat)(ob0:AM.Obj)(H0:AM.Heap)(hm:m<=16777215)(hm1:1<=m)(hs0:s0<256)(hc0:c=0->b0=[])(hb0:b0.length<=1000000)(hf0:b0.length<f0)(ho0:H0[o0]?=some (some ob0))(hw0:Rw (.pb []) 0 ob0) :
 ∃ code,Try.f22.body.bind (ay [1,1,1,1])=some code /\
  aj (lG (spQ ((spS m f0 [] b0 s0).1,(spS m f0 [] b0 s0).2,0))) X (evT X) 22 0 code (Gp c m b0 s0 o0 0 []) H0:=by
 refine⟨_,rfl,?_⟩;refine aj.blk ?_ (fun o h=>by rw[h.1];simp);refine aj.jP (fun k fr H=>∃ b s o g out ob f tl,k=b.length/\fr=Gp c m b s o g out++tl/\(tl=[]\/tl=[(43,.bool false)])/\s<256/\(c=0->b=[])/\b.length<=1000000/\b.length<f/\out.length+5*b.length<=5*b0.length/\H[o]?=some (some ob)/\Rw (.pb out) g ob/\spS m f0 [] b0 s0=spS m f out b s) ?_ (k:=b0.length) ⟨b0,s0,o0,0,[],ob0,f0,[],rfl,rfl,.inl rfl,hs0,hc0,hb0,hf0,by simp,ho0,hw0,rfl⟩;rintro k fr H ⟨b,s,o,g,out,ob,f,tl,rfl,rfl,htl,hs,hc,hb,hf,hlen,ho,hw,hX⟩;rw[hX];obtain⟨f,rfl⟩:∃ f',f=f'+1:=⟨f-1,by omega⟩;obtain⟨n,hn⟩:∃ n,n=min b.length m:=⟨_,rfl⟩;have hnb:n<=b.length:=by omega
 have hnm:n<=m:=by omega
 obtain⟨ob1,hw1,hA1⟩:=YF (H:=H) (x:=n) (n:=3) (Byt.whole ho hw) (by omega) (by omega) (by omega) (show n<256 ^ 3 by simp only[Nat.reducePow];omega);simp only[azR]at hA1;have hl3:(out++leB 3 n).length=out.length+3:=by rw[axR,kU]
 obtain⟨ob2,hw2,r8⟩:=aib c m b (out++leB 3 n) s H.length 0 n ob1 (H++[some ob1]) hs hc hnb hb (by rw[hl3];omega) (by simp) hw1;have arS:out++leB 3 n++UInt8.ofNat s::b.take n=out++(hdB n s++b.take n):=by unfold hdB;simp
 rw[arS]at hw2 r8;have hk2:(upd (H++[some ob1]) H.length (some ob2))[H.length]?=some (some ob2):=at_set (y:=some ob1) (by simp);have hmin:(if m<b.length then(m:Int)else(b.length:Int))=(n:Int):=by split<;>omega
 have w64:IntKind.u64.wrap (n:Int)=(n:Int):=wrap_u64 (by omega) (by omega);have hsl:=fun H=>ad4 (c:=c) (t:=1) hc hnb H;have w8:=acU hs;have hol:(out++(hdB n s++b.take n)).length=out.length+4+n:=by rw[axR,axR,Fg,ayc];omega
 refine aj.blk ?_ (by
  rintro o (⟨h,_⟩|⟨_,h,_⟩)
  .rw [h];simp
  .rw [h];simp)
 apply aj.seq (fr':=Di c m b s o g out.length n) (H':=H)
 .unfold Gp Di;generalize out.length=N at *;rcases htl with rfl|rfl
  .apply Pe;simp[-getElem?_pos,go_sem,ad2,hmin]
  .apply Pe;simp[-getElem?_pos,go_sem,ad2,hmin]
 apply aj.seq (fr':=Di c m b s H.length 0 (out++leB 3 n).length n) (H':=H++[some ob1])
 .unfold Di;rw[hl3];generalize out.length=N at *;apply Pe;simp[-getElem?_pos,go_sem,w64,hA1,ak]
 apply aj.seq (piece r8 _ rfl);have hnI:(n:Int)<=(m:Int):=by omega
 generalize hHU:upd (H++[some ob1]) H.length (some ob2)=HU at *;apply aj.seq (fr':=Di c m b ((s+1)%256) H.length 2 (out++(hdB n s++b.take n)).length n) (H':=HU)
 .unfold Di;generalize (out++(hdB n s++b.take n)).length=N2 at *;apply Pe;simp[-getElem?_pos,go_sem,w8]
 apply aj.seq (fr':=Di c m (b.drop n) ((s+1)%256) H.length 2 (out++(hdB n s++b.take n)).length n) (H':=HU)
 .unfold Di;generalize (out++(hdB n s++b.take n)).length=N2 at *;apply Pe;simp[-getElem?_pos,go_sem,hsl,ak]
 have hs2:(s+1)%256<256:=azS _ (by omega);by_cases hlt:b.length<m
 .have arT:n=b.length:=by omega
  have hR:spS m (f+1) out b s=(out++(hdB n s++b.take n),(s+1)%256):=by rw[spS,if_pos hlt,arT,ayM]
  have ad6:(n:Int)<(m:Int):=by omega
  rw[hR];refine aj.of (o:=⟨.ret,[(6,.sl H.length 0 (out++(hdB n s++b.take n)).length 2),(7,.int .u8 (((s+1)%256:Nat):Int)),(8,.int .i64 0)],HU⟩) ⟨0,?_⟩ (.inr ⟨by simp,rfl,H.length,2,ob2,rfl,rfl,rfl,hk2,hw2⟩);unfold Di;generalize (out++(hdB n s++b.take n)).length=N2 at *;generalize (s + 1) % 256=s' at *;simp[-getElem?_pos,go_sem,ad6,ak]
 .have arU:n=m:=by omega
  have hR:spS m (f+1) out b s=spS m f (out++(hdB n s++b.take n)) (b.drop n) ((s+1)%256):=by rw[spS,if_neg hlt,arU]
  refine aj.of (o:=⟨.normal,Gp c m (b.drop n) ((s+1)%256) H.length 2 (out++(hdB n s++b.take n))++[(43,.bool false)],HU⟩) ⟨0,?_⟩ (.inl ⟨rfl,(b.drop n).length,by rw[axW];omega,b.drop n,(s+1)%256,H.length,2,_,ob2,f,_,rfl,rfl,.inr rfl,hs2,fun h=>by rw[hc h];simp,by rw[axW];omega,by rw[axW];omega,by rw[hol,axW];omega,hk2,hw2,hR⟩);have ad6:¬ (n:Int)<(m:Int):=by omega
  unfold Di Gp;generalize (out++(hdB n s++b.take n)).length=N2 at *;generalize (s + 1) % 256=s' at *;simp[-getElem?_pos,go_sem,ad6]
end
section
variable (c:Nat)(b:List UInt8)
def Qn(s:Nat)(m:Int)(hs:s<256)(hc:c=0->b=[])(hb:b.length<=1000000):∃ code,Try.f22.body=some code /\
 aj (lG (spQ (split b s m))) X (evT X) 22 0 code [(0,.ro c (.pb b) 1),(1,.int .u8 (s:Nat)),(2,.int .i64 m)] []:=by
 refine⟨_,rfl,?_⟩;have hB:=acV m;apply aj.seq (fr':=[(0,.ro c (.pb b) 1),(1,.int .u8 (s:Nat)),(2,.int .i64 m)]) (H':=[some pG])
 .apply Pe;simp[-getElem?_pos,go_sem,ak,emB]
 by_cases hm:m<1\/16777215<m
 .rw [show split b s m=([],0,2) from if_pos hm];rw[show bdM m=false from decide_eq_false (by omega)]at hB;refine aj.of (o:=⟨.ret,[(6,.sl 1 0 0 0),(7,.int .u8 0),(8,.int .i64 2)],[some pG,some pG]⟩) ?_ ⟨rfl,1,0,pG,rfl,rfl,rfl,rfl,KP⟩;apply Run.bK (hne:=by simp);refine⟨0,?_⟩;simp[-getElem?_pos,go_sem,hB,unV,ak,emB]
 rw[show bdM m=true from decide_eq_true (by omega)]at hB;apply aj.seq (fr':=[(0,.ro c (.pb b) 1),(1,.int .u8 (s:Nat)),(2,.int .i64 m),(13,.bool false)]) (H':=[some pG])
 .apply Pe;simp[-getElem?_pos,go_sem,hB,unV]
 have h5i:¬ (1073741824:Int)<(b.length:Int):=by omega
 apply aj.seq (fr':=[(0,.ro c (.pb b) 1),(1,.int .u8 (s:Nat)),(2,.int .i64 m),(16,.bool false)]) (H':=[some pG])
 .apply Pe;simp[-getElem?_pos,go_sem,h5i]
 obtain⟨n,rfl⟩:∃ n:Nat,m=(n:Nat):=⟨m.toNat,by omega⟩;apply aj.seq (fr':=Gp c n b s 1 0 []) (H':=[some pG,some pG])
 .unfold Gp;apply Pe;simp[-getElem?_pos,go_sem,ak,emB]
 rw[show split b s (n:Nat)=((spS n (b.length+1) [] b s).1,(spS n (b.length+1) [] b s).2,0)by unfold split;rw[if_neg hm,if_neg (by omega)];rfl];exact piece (aa9 c n b s 1 (b.length+1) pG _ (by omega) (by omega) hs hc hb (by omega) rfl KP) _ rfl
end
def YK{H:AM.Heap}{a:AV}{b:List UInt8}{s:Nat}{m:Int}(h:Byt H a b)(hs:s<256)(hb:b.length<=1000000) :
 ∃ ob,Rw (.pb (split b s m).1) 0 ob/\evT X 22 [a,.int .u8 (s:Nat),.int .i64 m] H=some (.tup [.sl H.length 0 (split b s m).1.length 0,.int .u8 ((split b s m).2.1:Nat),.int .i64 (split b s m).2.2],H++[some ob]):=by
 obtain⟨c,p,xl,hp,hc,hx'⟩:=sD (C:=X) (f:=22) (i:=0) rfl h (dX (i:=1) (a:=.int .u8 (s:Nat)) rfl rfl (dX (i:=2) (a:=.int .i64 m) rfl rfl (dR 3)));obtain⟨code,hcode,hr⟩:=Qn c b s m hs hc hb;obtain⟨ob,q1,q2⟩:=Ev1.Kz (H:=H) (n:=(split b s m).1.length) (l:=(split b s m).1) (rest:=[.int .u8 ((split b s m).2.1:Nat),.int .i64 (split b s m).2.2]) (bC X) Try.func22 hcode hx' (by simp[aC,ids,hp.ids]) (by simp[dA]) rfl rfl rfl (by
  obtain⟨o,⟨he,o1,g,ob,q1,q2,q3,q4,q5⟩,hrun⟩:=hr;exact⟨o,⟨he,o1,g,ob,by show some [aB o.fr 6,aB o.fr 7,aB o.fr 8]=_;rw[q1,q2,q3],q4,q5⟩,by rw[agb,coB hp];exact hrun⟩)
 exact⟨ob,q1,dI q2⟩
structure Rd where
 m:Nat
 lim:Nat
 nx:Nat:=0
 rest:List UInt8:=[]
 body:List UInt8:=[]
 sq:Nat:=0
 wi:Bool:=false
 st:Int:=0
def Rd.pay(s:Rd)(vr vb:AV):AV:=.pc [.int .i64 (s.m:Nat),.int .i64 (s.lim:Nat),.int .u8 (s.nx:Nat),vr,vb,.int .u8 (s.sq:Nat),.bool s.wi,.int .i64 s.st]
def aX(s:Rd)(vr vb:AV)(tg:Nat):AM.Obj:=⟨s.pay vr vb,0,some 8,1,false,true,tg⟩
def Gq(m lim:Int):Bool:=decide (m<1\/16777215<m)||decide (lim<0\/1073741824<lim)
def arV(m lim:Int):lH X 65 [(0,.int .i64 m),(1,.int .i64 lim)]=some (.agg (.pc [.int .i64 m,.int .i64 lim,.int .u8 0,.ro 0 .pn 0,.ro 0 .pn 0,.int .u8 0,.bool false,.int .i64 0])):=by kernel_rfl
section
variable (m lim:Int)
def YL(m lim:Nat)(h:Gq m lim=false):∃ code,Try.f23.body=some code /\
 Run X (evT X) 23 0 code [(0,.int .i64 (m:Nat)),(1,.int .i64 (lim:Nat))] [] ⟨.ret,[(4,.ptr 0 0 0 0),(5,.int .i64 0)],[some (aX { m:=m,lim:=lim } (.ro 0 .pn 0) (.ro 0 .pn 0) 0)]⟩:=by
 refine⟨_,rfl,0,?_⟩;have hB:=acV (m:Nat);unfold Gq at h;simp only[Bool.or_eq_false_iff,decide_eq_false_iff_not]at h;rw[show bdM (m:Nat)=true from decide_eq_true (by omega)]at hB;have h1:¬ (lim:Int)<0:=by omega
 have h2:¬ (1073741824:Int)<(lim:Int):=by omega
 have h2':¬ 1073741824<lim:=by omega
 simp[-getElem?_pos,go_sem,hB,unV,ak,h1,h2,h2',aX,Rd.pay,arV]
end
def ad7{H:AM.Heap}{m lim:Nat}(h:Gq m lim=false):evT X 23 [.int .i64 (m:Nat),.int .i64 (lim:Nat)] H=some (.tup [.ptr H.length 0 0 0,.int .i64 0],H++[some (aX { m:=m,lim:=lim } (.ro 0 .pn 0) (.ro 0 .pn 0) 0)]):=by
 obtain⟨code,hcode,hr⟩:=YL m lim h;exact dI (Ev1.newP (n:=3) (rest:=[.int .i64 0]) (bC X) Try.func23 hcode (dX (i:=0) rfl rfl (dX (i:=1) rfl rfl (dR 2))) rfl rfl (by simp[dA]) rfl rfl rfl (by simp[aX,Rd.pay,ids,aC]) (by simp[aX,Rd.pay,tags,aW]) rfl rfl (by simp[aX,Rd.pay]) ⟨_,⟨rfl,0,rfl,rfl⟩,by rw[agc];exact hr⟩)
def arW{H:AM.Heap}{o off len g t:Nat}{ob:AM.Obj}{m l:List UInt8}(ho:H[o]?=some (some ob))(h:RwT (.pb m) g t ob)(hl:(m.drop off).take len=l)(hle:off+len<=m.length):Byt H (.sl o off len g) l:=by
 have hlive:live H o g=some ob:=by simp[live,ho,h.g]
 refine⟨if ob.z=0/\AM.ah ob.p=0 then 0 else 2,.pb l,.inl rfl,fun h0=>?_,fun t=>⟨⟨[o],[ob.tg]⟩,?_⟩⟩
 .split at h0
  .rename_i hz;have hm:m.length=0:=by have:=hz.2;rw[h.p]at this;exact this
   have:m=[]:=ayk hm;subst this;rw[<- hl];simp
  .cases h0
 .simp only[dY,dS,hlive,h.ids,h.p,gq];rw[if_pos hle,hl];rfl
def SlN(t:Nat)(v:AV)(l:List UInt8):Prop:=∃ τ,(τ=0\/τ=t)/\v=.ro 0 .pn τ/\l=[]
def SlO(t:Nat)(H:AM.Heap)(a:Nat)(v:AV)(l:List UInt8):Prop :=
 ∃ off g τ ob L,(τ=0\/τ=t)/\v=.sl a off l.length g/\H[a]?=some (some ob)/\RwT (.pb L) g τ ob/\L.drop off=l/\off<=L.length/\L.length<=8000000
def SlO.byt{t:Nat}{H:AM.Heap}{a:Nat}{v:AV}{l:List UInt8}(h:SlO t H a v l):Byt H v l:=by
 obtain⟨off,g,τ,ob,L,_,rfl,ho,hw,hl,hle,_⟩:=h;refine arW ho hw (by rw[<- hl,aym (by simp)]) (by rw[<- hl,axW];omega)
def SlO.cat{t:Nat}{H r:AM.Heap}{a:Nat}{v:AV}{l:List UInt8}(h:SlO t H a v l):SlO t (H++r) a v l:=by
 obtain⟨off,g,τ,ob,L,h1,h2,ho,h3⟩:=h;exact⟨off,g,τ,ob,L,h1,h2,KO ho,h3⟩
def SlO.ne{t:Nat}{H:AM.Heap}{a k:Nat}{x:Option AM.Obj}{v:AV}{l:List UInt8}(h:SlO t H a v l)(hk:k≠a):SlO t (upd H k x) a v l:=by
 obtain⟨off,g,τ,ob,L,h1,h2,ho,h3⟩:=h;exact⟨off,g,τ,ob,L,h1,h2,oN ho hk,h3⟩
def SlO.lt{t:Nat}{H:AM.Heap}{a:Nat}{v:AV}{l:List UInt8}(h:SlO t H a v l):a<H.length:=by
 obtain⟨off,g,τ,ob,L,h1,h2,ho,h3⟩:=h;exact jo ho
structure RdI (t:Nat) (H:AM.Heap) (s:Rd) (a:Nat) (oc:Option Nat):Prop where
 bx:∃ vr vb τ,(τ=0\/τ=t)/\H[0]?=some (some (aX s vr vb τ))/\SlO t H a vr s.rest/\(match oc with|none=>SlN t vb s.body|some c=>SlO t H c vb s.body/\0<c/\c≠a)
 a0:0<a
section
variable {t:Nat}{H:AM.Heap}{s:Rd}{a c:Nat}
def Dj{vr vb:AV}:tags (s.pay vr vb)=tags vr++tags vb:=by
 simp[Rd.pay,tags,aW]
def Nh{vr vb:AV}:ids (s.pay vr vb)=ids vr++ids vb:=by
 simp[Rd.pay,ids,aC]
end
def ckE(s:Rd):Int:=if s.m<leV (s.rest.take 3)then 5 else if(s.rest.getD 3 0).toNat≠s.nx then 6 else if s.lim<s.body.length+leV (s.rest.take 3)then 3 else 0
def ckN(s:Rd):Nat:=if ckE s=0 then leV (s.rest.take 3)else 0
section
variable {s:Rd}
def Tn(vr vb:AV)(E:AM.Heap)(m:Nat)(h0:E[0]?=some (some (aX s vr vb 2)))(hr:SlO 2 E 1 vr s.rest)(hb:(∃ τ,vb=.ro 0 .pn τ/\s.body=[])\/SlO 2 E 2 vb s.body)(h4:4<=s.rest.length)(hrl:s.rest.length<=1000000)(hbl:s.body.length<=1000000000)(hnx:s.nx<256) :
 ∃ code,Try.f33.body=some code /\
 Run X (evT X) 33 m code [(0,.ptr 0 0 0 0)] E ⟨.ret,[(2,.int .i64 (ckN s:Nat)),(3,.int .i64 (ckE s))],E⟩:=by
 refine⟨_,rfl,?_⟩;have hR:=aia (H:=E) (a:=vr) (b:=s.rest) (n:=3) hr.byt (by omega);have hrf:rfR s.rest (3:Nat)=(((leV (s.rest.take 3):Nat):Int),0):=by unfold rfR;rw[if_neg (by omega),if_neg (by omega)];rfl
 rw[hrf]at hR;simp only[azR]at hR;have hlv:leV (s.rest.take 3)<16777216:=by have:=KQ (s.rest.take 3);rw[ayc,ayG (by omega)]at this;simpa using this
 have hE:ckE s=if s.m<leV (s.rest.take 3)then 5 else if(s.rest.getD 3 0).toNat≠s.nx then 6 else if s.lim<s.body.length+leV (s.rest.take 3)then 3 else 0:=rfl
 have hN:ckN s=if ckE s=0 then leV (s.rest.take 3)else 0:=rfl
 obtain⟨y,hy⟩:∃ y,s.rest[3]?=some y:=⟨_,axI (by omega)⟩;rw[show s.rest.getD 3 0=y by rw[List.getD,hy];rfl]at hE;generalize hx:leV (s.rest.take 3)=x at *;have w64:IntKind.i64.wrap (x:Int)=(x:Int):=wrap_i64 (by omega) (by omega);obtain⟨off,g,τ,ob,L,hτ,rfl,ho,hw,hl,hle,hLb⟩:=hr;have hyL:L[off+3]?=some y:=by rw[<- hl,ayT]at hy;exact hy
 have YM:∀ n,(∃ τ,vb=.ro 0 .pn τ/\s.body=[])\/SlO 2 E 2 vb s.body->n=s.body.length->lenV X E 22 vb=some (n:Nat):=by
  rintro n (⟨τ,rfl,hb2⟩|⟨off,g,τ,ob,L,hτ,rfl,ho,hw,hl,hle,hLb⟩) rfl
  .rw [hb2];simp[lenV,AM.ah]
  .simp [lenV,live,ho,hw.g]
 have hbL:=YM _ hb rfl;apply Run.seq (fr':=[(0,.ptr 0 0 0 0)]) (H':=E)
 .apply Pe;simp[-getElem?_pos,go_sem,ak]
 apply Run.seq (fr':=[(0,.ptr 0 0 0 0),(4,.int .u64 (x:Nat))]) (H':=E)
 .generalize s.rest.length=N at *;apply Pe;simp[-getElem?_pos,go_sem,h0,aX,Rd.pay,hR,ak]
 apply Run.seq (fr':=[(0,.ptr 0 0 0 0),(6,.int .i64 (x:Nat))]) (H':=E)
 .apply Pe;simp[-getElem?_pos,go_sem,w64]
 have hlen:s.rest.length=L.length-off:=by rw[<- hl,axW]
 have h3i:off+3<L.length:=by omega
 have h3I:(3:Int)<(s.rest.length:Int):=by omega
 have h3n:3<s.rest.length:=by omega
 obtain⟨p,gg,cap,zz,row,aic,tg⟩:=ob;obtain⟨q1,q2,q3,q4,q5⟩:=hw;simp only at q1 q2 q3 q4 q5;subst q1 q2 q3 q4 q5;have wb:IntKind.i64.wrap ((s.body.length:Int)+(x:Int))=((s.body.length+x:Nat):Int):=by rw[wrap_i64 (by omega) (by omega)];omega
 by_cases c1:s.m<x
 .have e5:ckE s=5:=by rw[hE,if_pos c1]
  rw[hN,e5,if_neg (by decide)];have c1I:(s.m:Int)<(x:Int):=by omega
  refine⟨0,?_⟩;simp[-getElem?_pos,go_sem,h0,aX,Rd.pay,c1,c1I,ak]
 have c1I:¬ (s.m:Int)<(x:Int):=by omega
 by_cases c2:y.toNat≠s.nx
 .have e6:ckE s=6:=by rw[hE,if_neg c1,if_pos c2]
  rw[hN,e6,if_neg (by decide)];have c2b:((y.toNat:Int) != (s.nx:Int))=true:=by simp;omega
  refine⟨0,?_⟩;simp[-getElem?_pos,go_sem,h0,ho,aX,Rd.pay,c1,c1I,h3i,h3I,h3n,hyL,c2b,ak]
 have c2b:((y.toNat:Int) != (s.nx:Int))=false:=by simp;omega
 by_cases c3:s.lim<s.body.length+x
 .have e3:ckE s=3:=by rw[hE,if_neg c1,if_neg c2,if_pos c3]
  rw[hN,e3,if_neg (by decide)];have c3I:(s.lim:Int)<((s.body.length+x:Nat):Int):=by omega
  clear hbL YM;rcases hb with⟨τ,rfl,hb2⟩|⟨off2,g2,τ2,ob2,L2,hτ2,rfl,ho2,hw2,hl2,hle2,U3⟩
  .rw [hb2]at wb c3 c3I;simp only[ax3,ayg,Int.natCast_zero,Int.zero_add]at wb c3 c3I;refine⟨0,?_⟩;simp[-getElem?_pos,go_sem,h0,ho,aX,Rd.pay,c1,c1I,h3i,h3I,h3n,hyL,c2b,wb,c3,c3I,ak]
  .have g2:=hw2.g;generalize s.body.length + x=bx at *;refine⟨0,?_⟩;simp[-getElem?_pos,go_sem,h0,ho,ho2,g2,aX,Rd.pay,c1,c1I,h3i,h3I,h3n,hyL,c2b,wb,c3,c3I,ak]
 have c3I:¬ (s.lim:Int)<((s.body.length+x:Nat):Int):=by omega
 have e0:ckE s=0:=by rw[hE,if_neg c1,if_neg c2,if_neg c3]
 rw[hN,e0,if_pos rfl];clear hbL YM;rcases hb with⟨τ,rfl,hb2⟩|⟨off2,g2,τ2,ob2,L2,hτ2,rfl,ho2,hw2,hl2,hle2,U3⟩
 .rw [hb2]at wb c3 c3I;simp only[ax3,ayg,Int.natCast_zero,Int.zero_add]at wb c3 c3I;refine⟨0,?_⟩;simp[-getElem?_pos,go_sem,h0,ho,aX,Rd.pay,c1,c1I,h3i,h3I,h3n,hyL,c2b,wb,c3,c3I,ak]
 .have g2:=hw2.g;generalize s.body.length + x=bx at *;refine⟨0,?_⟩;simp[-getElem?_pos,go_sem,h0,ho,ho2,g2,aX,Rd.pay,c1,c1I,h3i,h3I,h3n,hyL,c2b,wb,c3,c3I,ak]
end
def acW{a b t:Nat}(ha:a=0\/a=t)(hb:b=0\/b=t):∃ t',(t'=0\/t'=t)/\bY [a,b]=some t':=by
 rcases ha with rfl|rfl<;>rcases hb with rfl|rfl
 .exact ⟨0,.inl rfl,rfl⟩
 .by_cases h:b=0
  .subst h;exact⟨0,.inl rfl,rfl⟩
  .exact ⟨b,.inr rfl,by simp[bY,dJ,h]⟩
 .by_cases h:a=0
  .subst h;exact⟨0,.inl rfl,rfl⟩
  .exact ⟨a,.inr rfl,by simp[bY,dJ,h]⟩
 .by_cases h:b=0
  .subst h;exact⟨0,.inl rfl,rfl⟩
  .exact ⟨b,.inr rfl,by simp[bY,dJ,h]⟩
def YN{H:AM.Heap}{o a:Nat}{ob oa:AM.Obj}(ho:H[o]?=some (some ob))(hi:ob.ids=true)(hid:ids ob.p=[a])(ha:H[a]?=some (some oa))(hai:oa.ids=false)(hne:a≠o):reach H aA [o] []=[o,a]:=by
 show reach H (99996+1+1+1+1) [o] []=[o,a];simp[reach,ho,hi,hid,ha,hai,hne]
def YO{H:AM.Heap}{o a c:Nat}{ob oa oc:AM.Obj}(ho:H[o]?=some (some ob))(hi:ob.ids=true)(hid:ids ob.p=[a,c])(ha:H[a]?=some (some oa))(hai:oa.ids=false)(hc:H[c]?=some (some oc))(hci:oc.ids=false)(hne:a≠o)(hc1:c≠o)(hc2:c≠a):reach H aA [o] []=[o,a,c]:=by
 show reach H (99996+1+1+1+1) [o] []=[o,a,c];simp[reach,ho,hi,hid,ha,hai,hc,hci,hne,hc1,hc2]
section
variable {H:AM.Heap}{s:Rd}{a:Nat}
def ad8(h:RdI 3 H s a none)(h4:4<=s.rest.length)(hrl:s.rest.length<=1000000)(hnx:s.nx<256) :
 ∃ H',evT X 33 [.ptr 0 0 0 0] H=some (.tup [.int .i64 (ckN s:Nat),.int .i64 (ckE s)],H')/\RdI 3 H' s a none/\H'.length=H.length/\∀ j,j≠0->j≠a->H'[j]?=H[j]?:=by
 obtain⟨⟨vr,vb,τ,hτ,h0,hr,hb⟩,a0⟩:=h;obtain⟨off,g,τ1,ob,L,hτ1,rfl,ho,hw,hl,hle,hLb⟩:=hr;obtain⟨τ2,hτ2,rfl,hbody⟩:=hb;obtain⟨p,gg,cap,zz,row,aic,tg⟩:=ob;obtain⟨q1,q2,q3,q4,q5⟩:=hw;simp only at q1 q2 q3 q4 q5;subst q1 q2 q3 q4 q5;have hπ:reach H aA [0] []=[0,a]:=YN h0 rfl (by simp[aX,Rd.pay,ids,aC]) ho rfl (by omega);have hl0:live H 0 0=some (aX s (.sl a off s.rest.length gg) (.ro 0 .pn τ2) τ):=by simp[live,h0,aX]
 have hla:live H a gg=some ⟨.pb L,gg,cap,zz,true,false,tg⟩:=by simp[live,ho]
 have ha0:a≠0:=by omega
 have hin0:bV H [0,a] 0 0=some (0,0):=by simp[bV,hl0,idxOf]
 have Qo:bV H [0,a] a gg=some (1,0):=by simp[bV,hla,idxOf,ax6 ha0]
 have Bc:aP H 0=some (aX s (.sl a off s.rest.length gg) (.ro 0 .pn τ2) τ):=by simp[aP,h0]
 have EI:aP H a=some ⟨.pb L,gg,cap,zz,true,false,tg⟩:=by simp[aP,ho]
 obtain⟨t',ht',hj⟩:=acW hτ2 hτ1;have hent:([0,a].map fun o=>(aP H o).map (aQ (bV H [0,a]) (fun _=>2) 0))=[some (aX s (.sl 1 off s.rest.length 0) (.ro 0 .pn 2) 2),some ⟨.pb L,0,cap,zz,true,false,2⟩]:=by simp[Bc,EI,aQ,aX,Rd.pay,ren,bU,Qo]
 generalize hE:[some (aX s (.sl 1 off s.rest.length 0) (.ro 0 .pn 2) 2),some (⟨.pb L,0,cap,zz,true,false,2⟩:AM.Obj)]=E at *;have hE0:E[0]?=some (some (aX s (.sl 1 off s.rest.length 0) (.ro 0 .pn 2) 2)):=by rw[<- hE];rfl
 have hE1:E[1]?=some (some ⟨.pb L,0,cap,zz,true,false,2⟩):=by rw[<- hE];rfl
 obtain⟨code,hcode,hrun⟩:=Tn (s:=s) (.sl 1 off s.rest.length 0) (.ro 0 .pn 2) E 2 hE0 ⟨off,0,2,_,L,.inr rfl,rfl,hE1,⟨rfl,rfl,rfl,rfl,rfl⟩,hl,hle,hLb⟩ (.inl ⟨2,rfl,hbody⟩) h4 hrl (by rw[hbody];simp) hnx;have YP:aP E 0=some (aX s (.sl 1 off s.rest.length 0) (.ro 0 .pn 2) 2):=by simp[aP,hE0]
 have YQ:aP E 1=some ⟨.pb L,0,cap,zz,true,false,2⟩:=by simp[aP,hE1]
 have hEv:=Ev1.grp (C:=X) (f:=33) (H:=H) (o:=0) (n:=2) (t:=t') (π:=[0,a]) (new:=[]) (xs:=[]) (ys:=[]) (aN:=[]) (l:=[.int .i64 (ckN s:Nat),.int .i64 (ckE s)]) (bC X) Try.func33 hcode rfl hπ hin0 (by rfl) rfl rfl rfl (by simp[dA])
  (by simp only[ax9,aye,Bc,EI,au,dn,aX,Dj];simpa[tags]using hj)
  (by rw[hent,acP];exact hrun) (.inr rfl) rfl
  (by
   have:reach E aA [0,1] []=[0,1]:=by show reach E (99996+1+1+1+1) [0,1] []=[0,1];simp[reach,hE0,hE1,aX,Rd.pay,ids,aC]
   show(reach E aA ([0,1]++ids (aG _)) []).filter _=[];rw[show ids (aG [AV.int .i64 (ckN s:Nat),.int .i64 (ckE s)])=[]by simp[aG,dB,ids,aC],ax1,this];rfl)
  (by simp[aG,dB,tags,aW])
  (by
   intro k hk ob hob;rcases hk with hk|hk
   .simp only[axY,ax3]at hk;have:k=0\/k=1:=by omega
    rcases this with rfl|rfl
    .rw [YP]at hob;obtain rfl:=axN hob;exact⟨⟨by simp[aX,Rd.pay,tags,aW],.inr rfl⟩,by simp[aX,Rd.pay]⟩
    .rw [YQ]at hob;obtain rfl:=axN hob;exact⟨⟨by simp[tags],.inr rfl⟩,by simp⟩
   .cases hk)
 refine⟨_,dI (by simpa[aG,dB,ren,bU]using hEv),?_,by rw[eH],?_⟩
 .have ad9:live E 1 0=some ⟨.pb L,0,cap,zz,true,false,2⟩:=by simp[live,hE1]
  have hg1:dK H [0,a] 1 0=gg:=by simp[dK,EI]
  have hg0:dK H [0,a] 0 0=0:=by simp[dK,Bc,aX]
  have hb1:aY H [0,a] [] E 1 0=some (a,gg):=by unfold aY;rw[ad9];simp[hg1]
  have hbk:bk 2 t' 2=t':=by simp[bk]
  have hp0:=kS (ρ:=aY H [0,a] [] E) (τ:=bk 2 t') (H:=H) (π:=[0,a]) (H1:=E) [0,a] 0 0 0 H (by simp[ax6 ha0]) rfl (jo h0);have hp1:=kS (ρ:=aY H [0,a] [] E) (τ:=bk 2 t') (H:=H) (π:=[0,a]) (H1:=E) [0,a] 0 1 a H (by simp[ax6 ha0]) rfl (jo ho);rw[ayg,YP]at hp0;rw[ayg,YQ]at hp1;simp only[axM,aQ,aX,Rd.pay,ren,bU,hb1,hbk,hg0,hg1]at hp0 hp1;exact⟨⟨.sl a off s.rest.length gg,.ro 0 .pn t',t',ht',by simpa[aX,Rd.pay]using hp0,⟨off,gg,t',_,L,ht',rfl,hp1,⟨rfl,rfl,rfl,rfl,rfl⟩,hl,hle,hLb⟩,⟨t',ht',rfl,hbody⟩⟩,a0⟩
 .intro j hj0 hja;rw[pF _ _ _ (by simp[hj0,hja])]
def aea{c:Nat}(h:RdI 3 H s a (some c))(h4:4<=s.rest.length)(hrl:s.rest.length<=1000000)(hbl:s.body.length<=1000000000)(hnx:s.nx<256) :
 ∃ H',evT X 33 [.ptr 0 0 0 0] H=some (.tup [.int .i64 (ckN s:Nat),.int .i64 (ckE s)],H')/\RdI 3 H' s a (some c)/\H'.length=H.length/\∀ j,j≠0->j≠a->j≠c->H'[j]?=H[j]?:=by
 obtain⟨⟨vr,vb,τ,hτ,h0,hr,hb⟩,a0⟩:=h;obtain⟨off,g,τ1,ob,L,hτ1,rfl,ho,hw,hl,hle,hLb⟩:=hr;obtain⟨⟨off2,g2,τ2,ob2,L2,hτ2,rfl,ho2,hw2,hl2,hle2,U3⟩,hc0,hca⟩:=hb;obtain⟨p,gg,cap,zz,row,aic,tg⟩:=ob;obtain⟨q1,q2,q3,q4,q5⟩:=hw;simp only at q1 q2 q3 q4 q5;subst q1 q2 q3 q4 q5;obtain⟨p2,gg2,cap2,zz2,axq,axr,tg2⟩:=ob2;obtain⟨q1,q2,q3,q4,q5⟩:=hw2;simp only at q1 q2 q3 q4 q5;subst q1 q2 q3 q4 q5;have hπ:reach H aA [0] []=[0,a,c]:=YO h0 rfl (by simp[aX,Rd.pay,ids,aC]) ho rfl ho2 rfl (by omega) (by omega) hca;have hl0:live H 0 0=some (aX s (.sl a off s.rest.length gg) (.sl c off2 s.body.length gg2) τ):=by simp[live,h0,aX]
 have hla:live H a gg=some ⟨.pb L,gg,cap,zz,true,false,tg⟩:=by simp[live,ho]
 have hlc:live H c gg2=some ⟨.pb L2,gg2,cap2,zz2,true,false,tg2⟩:=by simp[live,ho2]
 have ha0:a≠0:=by omega
 have hc0':c≠0:=by omega
 have hin0:bV H [0,a,c] 0 0=some (0,0):=by simp[bV,hl0,idxOf]
 have Qo:bV H [0,a,c] a gg=some (1,0):=by simp[bV,hla,idxOf,ax6 ha0]
 have hinc:bV H [0,a,c] c gg2=some (2,0):=by simp[bV,hlc,idxOf,ax6 hc0',ax6 hca]
 have U4:aP H c=some ⟨.pb L2,gg2,cap2,zz2,true,false,tg2⟩:=by simp[aP,ho2]
 have Bc:aP H 0=some (aX s (.sl a off s.rest.length gg) (.sl c off2 s.body.length gg2) τ):=by simp[aP,h0]
 have EI:aP H a=some ⟨.pb L,gg,cap,zz,true,false,tg⟩:=by simp[aP,ho]
 obtain⟨t',ht',hj⟩:=acW hτ1 hτ2;have hent:([0,a,c].map fun o=>(aP H o).map (aQ (bV H [0,a,c]) (fun _=>2) 0))=[some (aX s (.sl 1 off s.rest.length 0) (.sl 2 off2 s.body.length 0) 2),some ⟨.pb L,0,cap,zz,true,false,2⟩,some ⟨.pb L2,0,cap2,zz2,true,false,2⟩]:=by simp[Bc,EI,U4,aQ,aX,Rd.pay,ren,bU,Qo,hinc]
 generalize hE:[some (aX s (.sl 1 off s.rest.length 0) (.sl 2 off2 s.body.length 0) 2),some (⟨.pb L,0,cap,zz,true,false,2⟩:AM.Obj),some (⟨.pb L2,0,cap2,zz2,true,false,2⟩:AM.Obj)]=E at *;have hE0:E[0]?=some (some (aX s (.sl 1 off s.rest.length 0) (.sl 2 off2 s.body.length 0) 2)):=by rw[<- hE];rfl
 have hE1:E[1]?=some (some ⟨.pb L,0,cap,zz,true,false,2⟩):=by rw[<- hE];rfl
 have hE2:E[2]?=some (some ⟨.pb L2,0,cap2,zz2,true,false,2⟩):=by rw[<- hE];rfl
 obtain⟨code,hcode,hrun⟩:=Tn (s:=s) (.sl 1 off s.rest.length 0) (.sl 2 off2 s.body.length 0) E 3 hE0 ⟨off,0,2,_,L,.inr rfl,rfl,hE1,⟨rfl,rfl,rfl,rfl,rfl⟩,hl,hle,hLb⟩ (.inr ⟨off2,0,2,_,L2,.inr rfl,rfl,hE2,⟨rfl,rfl,rfl,rfl,rfl⟩,hl2,hle2,U3⟩) h4 hrl hbl hnx;have YP:aP E 0=some (aX s (.sl 1 off s.rest.length 0) (.sl 2 off2 s.body.length 0) 2):=by simp[aP,hE0]
 have YQ:aP E 1=some ⟨.pb L,0,cap,zz,true,false,2⟩:=by simp[aP,hE1]
 have aie:aP E 2=some ⟨.pb L2,0,cap2,zz2,true,false,2⟩:=by simp[aP,hE2]
 have hEv:=Ev1.grp (C:=X) (f:=33) (H:=H) (o:=0) (n:=2) (t:=t') (π:=[0,a,c]) (new:=[]) (xs:=[]) (ys:=[]) (aN:=[]) (l:=[.int .i64 (ckN s:Nat),.int .i64 (ckE s)]) (bC X) Try.func33 hcode rfl hπ hin0 (by rfl) rfl rfl rfl (by simp[dA])
  (by simp only[ax9,aye,Bc,EI,U4,au,dn,aX,Dj];simpa[tags]using hj)
  (by rw[hent,acP];exact hrun) (.inr rfl) rfl
  (by
   have:reach E aA [0,1,2] []=[0,1,2]:=by show reach E (99994+1+1+1+1+1+1) [0,1,2] []=[0,1,2];simp[reach,hE0,hE1,hE2,aX,Rd.pay,ids,aC]
   show(reach E aA ([0,1,2]++ids (aG _)) []).filter _=[];rw[show ids (aG [AV.int .i64 (ckN s:Nat),.int .i64 (ckE s)])=[]by simp[aG,dB,ids,aC],ax1,this];rfl)
  (by simp[aG,dB,tags,aW])
  (by
   intro k hk ob hob;rcases hk with hk|hk
   .simp only[axY,ax3]at hk;have:k=0\/k=1\/k=2:=by omega
    rcases this with rfl|rfl|rfl
    .rw [YP]at hob;obtain rfl:=axN hob;exact⟨⟨by simp[aX,Rd.pay,tags,aW],.inr rfl⟩,by simp[aX,Rd.pay]⟩
    .rw [YQ]at hob;obtain rfl:=axN hob;exact⟨⟨by simp[tags],.inr rfl⟩,by simp⟩
    .rw [aie]at hob;obtain rfl:=axN hob;exact⟨⟨by simp[tags],.inr rfl⟩,by simp⟩
   .cases hk)
 refine⟨_,dI (by simpa[aG,dB,ren,bU]using hEv),?_,by rw[eH],?_⟩
 .have ad9:live E 1 0=some ⟨.pb L,0,cap,zz,true,false,2⟩:=by simp[live,hE1]
  have arX:live E 2 0=some ⟨.pb L2,0,cap2,zz2,true,false,2⟩:=by simp[live,hE2]
  have hg2:dK H [0,a,c] 2 0=gg2:=by simp[dK,U4]
  have hg1:dK H [0,a,c] 1 0=gg:=by simp[dK,EI]
  have hg0:dK H [0,a,c] 0 0=0:=by simp[dK,Bc,aX]
  have hb1:aY H [0,a,c] [] E 1 0=some (a,gg):=by unfold aY;rw[ad9];simp[hg1]
  have hb2:aY H [0,a,c] [] E 2 0=some (c,gg2):=by unfold aY;rw[arX];simp[hg2]
  have hbk:bk 2 t' 2=t':=by simp[bk]
  have hp0:=kS (ρ:=aY H [0,a,c] [] E) (τ:=bk 2 t') (H:=H) (π:=[0,a,c]) (H1:=E) [0,a,c] 0 0 0 H (by simp[ax6 ha0,ax6 hc0',ax6 hca]) rfl (jo h0);have hp1:=kS (ρ:=aY H [0,a,c] [] E) (τ:=bk 2 t') (H:=H) (π:=[0,a,c]) (H1:=E) [0,a,c] 0 1 a H (by simp[ax6 ha0,ax6 hc0',ax6 hca]) rfl (jo ho);have hp2:=kS (ρ:=aY H [0,a,c] [] E) (τ:=bk 2 t') (H:=H) (π:=[0,a,c]) (H1:=E) [0,a,c] 0 2 c H (by simp[ax6 ha0,ax6 hc0',ax6 hca]) rfl (jo ho2);rw[ayg,aie]at hp2;rw[ayg,YP]at hp0;rw[ayg,YQ]at hp1;simp only[axM,aQ,aX,Rd.pay,ren,bU,hb1,hb2,hbk,hg0,hg1,hg2]at hp0 hp1 hp2;exact⟨⟨.sl a off s.rest.length gg,.sl c off2 s.body.length gg2,t',ht',by simpa[aX,Rd.pay]using hp0,⟨off,gg,t',_,L,ht',rfl,hp1,⟨rfl,rfl,rfl,rfl,rfl⟩,hl,hle,hLb⟩,⟨⟨off2,gg2,t',_,L2,ht',rfl,hp2,⟨rfl,rfl,rfl,rfl,rfl⟩,hl2,hle2,U3⟩,hc0,hca⟩⟩,a0⟩
 .intro j hj0 hja hjc;rw[pF _ _ _ (by simp[hj0,hja,hjc])]
end
variable {mm:Nat}
structure Pk where
 sq:Nat
 nx:Nat
 body:List UInt8
def vS:AM.Obj:=⟨.pr 3 [],0,.none,0,true,false,0⟩
def emK:rowOf (dh X 55) .none 0=vS:=by kernel_rfl
def aif{H:AM.Heap}{s:Rd}{a:Nat}{oc:Option Nat}(h:RdI 3 H s a oc)(h4:4<=s.rest.length)(hrl:s.rest.length<=1000000)(hbl:s.body.length<=1000000000)(hnx:s.nx<256) :
 ∃ H',evT X 33 [.ptr 0 0 0 0] H=some (.tup [.int .i64 (ckN s:Nat),.int .i64 (ckE s)],H')/\RdI 3 H' s a oc/\H'.length=H.length/\∀ j,j≠0->j≠a->(∀ c,oc=some c->j≠c)->H'[j]?=H[j]?:=by
 cases oc with
 | none=>
  obtain⟨H',h1,h2,h3,h4⟩:=ad8 h h4 hrl hnx;exact⟨H',h1,h2,h3,fun j h5 h6 _=>h4 j h5 h6⟩
 | some c=>
  obtain⟨H',h1,h2,h3,h4⟩:=aea h h4 hrl hbl hnx;exact⟨H',h1,h2,h3,fun j h5 h6 h7=>h4 j h5 h6 (h7 c rfl)⟩
section
variable {H:AM.Heap}{s:Rd}{vr vb:AV}{τ:Nat}
def gU(O n g:Nat)(m:AM.Frame):AM.Frame:=[(0,.ptr 0 0 0 0),(6,.sl O 0 n g)]++m
def aeb(O N g n:Nat)(h0:H[0]?=some (some (aX s vr vb τ))) :
 ∃ code,Try.f24.body.bind (ay [1,1,1,1,0,0,0,1,0,1,1,1,0,1,0])=some code/\Run X (evT X) 24 mm code (gU O N g [(7,.int .i64 (n:Nat)),(58,.bool true)]) H ⟨.normal,gU O N g [(7,.int .i64 (n:Nat))],upd H 0 (some (aX { s with wi:=true,sq:=s.nx } vr vb τ))⟩:=by
 refine⟨_,rfl,?_⟩;have h1:(upd H 0 (some (aX { s with wi:=true } vr vb τ)))[0]?=some (some (aX { s with wi:=true } vr vb τ)):=at_set h0;have hs:(upd H 0 (some (aX { s with wi:=true } vr vb τ))).set 0 (some (aX { s with wi:=true,sq:=s.nx } vr vb τ))=upd H 0 (some (aX { s with wi:=true,sq:=s.nx } vr vb τ)):=by unfold upd;simp
 unfold gU;simp only[aX,Rd.pay,upd]at h0 h1 hs;apply Pe;simp[-getElem?_pos,go_sem,h0,h1,hs,aX,Rd.pay]
def YR(O N g n:Nat)(a off rl ga:Nat)(oa:AM.Obj)(L:List UInt8)(h0:H[0]?=some (some (aX s (.sl a off rl ga) vb τ)))(ha:H[a]?=some (some oa))(hw:oa.p=.pb L)(hg:oa.g=ga)(hn:4+n<=rl)(hL:off+rl=L.length)(hrl:rl<=100000000) :
 ∃ code,Try.f24.body.bind (ay [1,1,1,1,0,0,0,1,0,1,1,1,1,1,0])=some code/\Run X (evT X) 24 mm code (gU O N g [(7,.int .i64 (n:Nat))]) H ⟨.normal,gU O N g [(7,.int .i64 (n:Nat))],upd H 0 (some (aX s (.sl a (off+(4+n)) (rl-(4+n)) ga) vb τ))⟩:=by
 refine⟨_,rfl,?_⟩;have w4:IntKind.i64.wrap (4+(n:Int))=((4+n:Nat):Int):=by rw[wrap_i64 (by omega) (by omega)];omega
 have hsl:gY X H 22 (.sl a off rl ga) (some (.int .i64 ((4+n:Nat):Int))) none=some (.sl a (off+(4+n)) (rl-(4+n)) ga):=by
  have h1:((4+n:Nat):Int)<=(rl:Int):=by omega
  have h2:4+n<=rl:=hn;have h3:(4:Int)+(n:Int)<=(rl:Int):=by omega
  have h4:0<=(4:Int)+(n:Int):=by omega
  have h5:((4:Int)+(n:Int)).toNat=4+n:=by omega
  simp[gY,bound,live,ha,hg,hw,aS,h1,h2,h3,h4,h5]
 unfold gU;simp only[aX,Rd.pay]at h0;generalize 4 + n=n4 at *;apply Pe;simp[-getElem?_pos,go_sem,h0,aX,Rd.pay,w4,hsl]
def YS(O N g n:Nat)(hx:s.nx<256)(h0:H[0]?=some (some (aX s vr vb τ))) :
 ∃ code,Try.f24.body.bind (ay [1,1,1,1,0,0,0,1,0,1,1,1,1,1,1,0])=some code/\Run X (evT X) 24 mm code (gU O N g [(7,.int .i64 (n:Nat))]) H ⟨.normal,gU O N g [(7,.int .i64 (n:Nat))],upd H 0 (some (aX { s with nx:=(s.nx+1)%256 } vr vb τ))⟩:=by
 refine⟨_,rfl,?_⟩;have w8:=acU hx;unfold gU;simp only[aX,Rd.pay]at h0;apply Pe;simp[-getElem?_pos,go_sem,h0,aX,Rd.pay,w8]
def abb(O N g n:Nat)(tl:AM.Frame)(htl:tl=[]\/tl=[(58,.bool false)])(a off rl ga τ2:Nat)(oa:AM.Obj)(L:List UInt8)(h0:H[0]?=some (some (aX s (.sl a off rl ga) (.ro 0 .pn τ2) τ)))(ha:H[a]?=some (some oa))(hw:oa.p=.pb L)(hg:oa.g=ga)(hi:oa.ids=false)(hn:4+n<=rl)(hL:off+rl=L.length)(hrl:rl<=10000000) :
 ∃ code,Try.f24.body.bind (ay [1,1,1,1,0,0,0,1,0,1,1,1,1,0])=some code/\Run X (evT X) 24 mm code (gU O N g ((7,.int .i64 (n:Nat))::tl)) H ⟨.normal,gU O N g [(7,.int .i64 (n:Nat))],upd (H++[some ⟨.pb (((L.drop off).drop 4).take n),0,.none,0,true,false,0⟩]) 0 (some (aX s (.sl a off rl ga) (.sl H.length 0 n 0) τ))⟩:=by
 refine⟨_,rfl,?_⟩;have w4:IntKind.i64.wrap (4+(n:Int))=((4+n:Nat):Int):=by rw[wrap_i64 (by omega) (by omega)];omega
 have hsl:gY X H 22 (.sl a off rl ga) (some (.int .i64 4)) (some (.int .i64 ((4+n:Nat):Int)))=some (.sl a (off+4) n ga):=by
  have h1:((4+n:Nat):Int)<=(rl:Int):=by omega
  have h2:4+n<=rl:=hn;have h3:(4:Int)+(n:Int)<=(rl:Int):=by omega
  have h4:0<=(4:Int)+(n:Int):=by omega
  have h5:((4:Int)+(n:Int)).toNat=4+n:=by omega
  have h6:4<=4+n:=by omega
  have h7:L.length-off=rl:=by omega
  have h8:(4:Int)<=(4:Int)+(n:Int):=by omega
  simp[gY,bound,live,ha,hg,hw,aS,ah,h7,h1,h2,h3,h4,h5,h6,h8]
 have hlen:(((L.drop off).drop 4).take n).length=n:=by rw[ayc,axW,axW];omega
 have hsrc:gJ H (.sl a (off+4) n ga)=some (.pb (((L.drop off).drop 4).take n),0):=by
  have h1:off+4+n<=L.length:=by omega
  simp[gJ,live,ha,hg,hi,hw,gq,h1,jq,kH,azc]
 have hA:bG X H 22 (.ro 0 .pn τ2) (.sl a (off+4) n ga)=some (.sl H.length 0 n 0,H++[some ⟨.pb (((L.drop off).drop 4).take n),0,.none,0,true,false,0⟩]):=by
  have hroom:dQ X 5 n=true:=by simp[dQ];omega
  generalize ((L.drop off).drop 4).take n=pc at *;simp only[bG,lM,nO,vN,hsrc];simp[jq,ah,hlen,hroom,l9,dh,aS]
 generalize ((L.drop off).drop 4).take n=pc at *;have h0':(H++[some (⟨.pb pc,0,.none,0,true,false,0⟩:AM.Obj)])[0]?=some (some (aX s (.sl a off rl ga) (.ro 0 .pn τ2) τ)):=KO h0;unfold gU;simp only[aX,Rd.pay]at h0 h0';generalize H++[some (⟨.pb pc,0,.none,0,true,false,0⟩:AM.Obj)]=HV at *;generalize 4 + n=n4 at *;rcases htl with rfl|rfl
 .apply Pe;simp[-getElem?_pos,go_sem,h0,h0',aX,Rd.pay,w4,hsl,hA]
 .apply Pe;simp[-getElem?_pos,go_sem,h0,h0',aX,Rd.pay,w4,hsl,hA]
def abd(O N g n:Nat)(tl:AM.Frame)(htl:tl=[]\/tl=[(58,.bool false)])(a off rl ga c off2 bl gc τ2:Nat)(oa ob:AM.Obj)(L L2:List UInt8)(h0:H[0]?=some (some (aX s (.sl a off rl ga) (.sl c off2 bl gc) τ)))(ha:H[a]?=some (some oa))(hw:oa.p=.pb L)(hg:oa.g=ga)(hi:oa.ids=false)(hn:4+n<=rl)(hL:off+rl=L.length)(hrl:rl<=10000000)
 (hc:H[c]?=some (some ob))(hwc:RwT (.pb L2) gc τ2 ob)(hb:bl=(L2.drop off2).length)(hoff:off2<=L2.length)(hLL:L2.length<=10000000)(c0:0<c) :
 ∃ ob',RwT (.pb (L2.drop off2++((L.drop off).drop 4).take n)) (gc+1) τ2 ob'/\∃ code,Try.f24.body.bind (ay [1,1,1,1,0,0,0,1,0,1,1,1,1,0])=some code/\Run X (evT X) 24 mm code (gU O N g ((7,.int .i64 (n:Nat))::tl)) H ⟨.normal,gU O N g [(7,.int .i64 (n:Nat))],upd (upd H c (some ob')) 0 (some (aX s (.sl a off rl ga) (.sl c 0 (bl+n) (gc+1)) τ))⟩:=by
 have w4:IntKind.i64.wrap (4+(n:Int))=((4+n:Nat):Int):=by rw[wrap_i64 (by omega) (by omega)];omega
 have hsl:gY X H 22 (.sl a off rl ga) (some (.int .i64 4)) (some (.int .i64 ((4+n:Nat):Int)))=some (.sl a (off+4) n ga):=by
  have h1:((4+n:Nat):Int)<=(rl:Int):=by omega
  have h2:4+n<=rl:=hn;have h3:(4:Int)+(n:Int)<=(rl:Int):=by omega
  have h4:0<=(4:Int)+(n:Int):=by omega
  have h5:((4:Int)+(n:Int)).toNat=4+n:=by omega
  have h6:4<=4+n:=by omega
  have h7:L.length-off=rl:=by omega
  have h8:(4:Int)<=(4:Int)+(n:Int):=by omega
  simp[gY,bound,live,ha,hg,hw,aS,ah,h7,h1,h2,h3,h4,h5,h6,h8]
 have hlen:(((L.drop off).drop 4).take n).length=n:=by rw[ayc,axW,axW];omega
 have hsrc:gJ H (.sl a (off+4) n ga)=some (.pb (((L.drop off).drop 4).take n),0):=by
  have h1:off+4+n<=L.length:=by omega
  simp[gJ,live,ha,hg,hi,hw,gq,h1,jq,kH,azc]
 obtain⟨ob',hw',hA⟩:=JY (C:=X) (T:=22) (e:=5) (by simp) (Ai) (by simp) (by simp) (by simp) hc hwc hoff (.inl hsrc) (by rw[hlen];omega);rw[<- hb,hlen]at hA;refine⟨ob',hw',_,rfl,?_⟩;have h0':(upd H c (some ob'))[0]?=some (some (aX s (.sl a off rl ga) (.sl c off2 bl gc) τ)):=oN h0 (by omega);generalize ((L.drop off).drop 4).take n=pc at *;unfold gU;simp only[aX,Rd.pay]at h0 h0';generalize upd H c (some ob')=HV at *;generalize 4 + n=n4 at *;rcases htl with rfl|rfl
 .apply Pe;simp[-getElem?_pos,go_sem,h0,h0',aX,Rd.pay,w4,hsl,hA]
 .apply Pe;simp[-getElem?_pos,go_sem,h0,h0',aX,Rd.pay,w4,hsl,hA]
end
def PkA(t:Nat)(p:Pk)(v:AV):Prop:=∃ cb τ,(τ=0\/τ=t)/\(cb=0->p.body=[])/\cb<=2/\v=.pc [.int .u8 (p.sq:Nat),.int .u8 (p.nx:Nat),.ro cb (.pb p.body) τ]
def PkL(t:Nat):List Pk->List AV->Prop
 | [],[]=>True
 | p::r,v::l=>PkA t p v/\PkL t r l
 | _,_=>False
def PkR(t:Nat)(H:AM.Heap)(O n g:Nat)(out:List Pk):Prop:=∃ l ob τ,(τ=0\/τ=t)/\PkL t out l/\n=out.length/\H[O]?=some (some ob)/\RwT (.pr 3 l) g τ ob
def Nj{a b t:Nat}(ha:a=0\/a=t)(hb:b=0\/b=t):∃ t',(t'=0\/t'=t)/\dJ a b=some t':=by
 unfold dJ;by_cases h0:a=0
 .rw [if_pos h0];exact⟨b,hb,rfl⟩
 .rw [if_neg h0];have:a=t:=by rcases ha with h|h;exact absurd h h0;exact h
  by_cases h1:b=0
  .rw [if_pos (.inl h1)];exact⟨a,ha,rfl⟩
  .have:b=t:=by rcases hb with h|h;exact absurd h h1;exact h
   rw[if_pos (.inr (by omega))];exact⟨a,ha,rfl⟩
def Gs{t:Nat}:∀ {l:List Pk} {m:List AV},PkL t l m->l.length=m.length
 | [],[],_=>rfl
 | p::r,v::l,h=>by rw[axY,axY,Gs h.2]
 | [],_::_,h=>h.elim
 | _::_,[],h=>h.elim
def Tq{t:Nat}{a:Pk}{b:AV}:∀ {l:List Pk} {m:List AV},PkL t l m->PkA t a b->PkL t (l++[a]) (m++[b])
 | [],[],_,hab=>⟨hab,trivial⟩
 | p::r,v::l,h,hab=>⟨h.1,Tq h.2 hab⟩
 | [],_::_,h,_=>h.elim
 | _::_,[],h,_=>h.elim
def aec{t:Nat}{H:AM.Heap}{O n g τ2:Nat}{out:List Pk}{p:Pk}{v src:AV}(h:PkR t H O n g out)(hp:PkA t p v)(h2:τ2=0\/τ2=t)(hsrc:gJ H src=some (.pr 3 [v],τ2))(hn:n<=1000000) :
 ∃ H',PkR t H' O (n+1) (g+1) (out++[p])/\(∀ j,j≠O->H'[j]?=H[j]?)/\H'.length=H.length/\bG X H 51 (.sl O 0 n g) src=some (.sl O 0 (n+1) (g+1),H'):=by
 obtain⟨l,ob,τ,hτ,hf,hn2,ho,hw⟩:=h;have hl:=Gs hf;have hlive:live H O g=some ob:=by simp[live,ho,hw.g]
 obtain⟨t',ht',hj⟩:=Nj hτ h2;have hroom:dQ X 55 (n+1)=true:=by simp[dQ];omega
 refine⟨upd H O (some { ob with p:=.pr 3 (l++[v]),g:=g+1,cap:=(match ob.cap with|some c=>if 0+n+1<=c then some (c-0)else none|none=>none),z:=(if AM.ah ob.p=0 then ob.z else 1),tg:=t' }),⟨l++[v],_,t',ht',Tq hf hp,by simp[hn2],at_set ho,⟨rfl,rfl,hw.row,hw.ids,rfl⟩⟩,fun j hj=>by unfold upd;rw[axU (ax6 hj)],by simp[upd],?_⟩;unfold bG;have hsz:sizeT X 55=3:=by kernel_rfl
 have hz:bM X 55=true:=by kernel_rfl
 have hu:und X 51=.slice 55:=by kernel_rfl
 simp only[hu,hsz,hz,hsrc,hlive,hw.row,hw.ids,hw.p,hw.tg];simp only[show ¬ ((3:Nat)=0\/true=false)by simp,if_false];have hc:True/\True/\0+n=AM.ah (.pr 3 l)/\aS (.pr 3 l)=3/\dQ X 55 (n+AM.ah (.pr 3 [v]))=true:=⟨trivial,trivial,by simp[AM.ah];omega,rfl,hroom⟩;rw[if_pos hc];have hps:gq (.pr 3 l) 0 n=some (.pr 3 l):=by
  have:n=l.length:=by omega
  subst this;simp[gq]
 simp only[hps,l9,if_true,hj,aS];simp[AM.ah];rfl
def abe(l:List AV):mkRow X 55 l=(uG 3 l).map (.pr 3):=by kernel_rfl
def arY{H:AM.Heap}{c off bl gc τ:Nat}{ob:AM.Obj}{L:List UInt8}(x y:Int)(hc:H[c]?=some (some ob))(hw:RwT (.pb L) gc τ ob)(hL:off+bl<=L.length)(ht:τ=0\/τ=3) :
 ∃ cb,(cb=0->L=[])/\cb<=2/\bT X H 51 1 [(0,.agg (.pc [.int .u8 x,.int .u8 y,.sl c off bl gc]))]=some (.ro 1 (.pr 3 [.pc [.int .u8 x,.int .u8 y,.ro cb (.pb ((L.drop off).take bl)) τ]]) τ,upd H c none):=by
 have hsz:sizeT X 55=3:=by kernel_rfl
 have hu:und X 51=.slice 55:=by kernel_rfl
 have hz:eF (bD X 55)=[.int .u8 0,.int .u8 0,.ro 0 .pn 0]:=by kernel_rfl
 have hns:Qk X 6 55=false:=by kernel_rfl
 have hmk:∀ l,mkRow X 55 l=(uG 3 l).map (.pr 3):=abe;have hlive:live H c gc=some ob:=by simp[live,hc,hw.g]
 have hps:gq (.pb L) off bl=some (.pb ((L.drop off).take bl)):=by simp[gq,hL]
 refine⟨if ob.z=0/\AM.ah ob.p=0 then 0 else 2,fun h0=>?_,by split<;>omega,?_⟩
 .split at h0
  .rename_i hz;have:=hz.2;rw[hw.p]at this;exact ayk this
  .cases h0
 .generalize hcb:(if ob.z=0/\AM.ah ob.p=0 then 0 else 2)=cb;unfold bT;simp only[hu,hsz,hz];rw[if_pos ⟨by omega,by omega,rfl,rfl⟩];have hj:bY [τ]=some τ:=AZ τ;have hset:iY 3 (List.replicate 1 (bD X 55)) [(0,.agg (.pc [.int .u8 x,.int .u8 y,.sl c off bl gc]))]=some [.agg (.pc [.int .u8 x,.int .u8 y,.sl c off bl gc])]:=by simp[iY,eF,cellsOf,scalars,scalar]
  rw[hset];have hfr:lU H [.agg (.pc [.int .u8 x,.int .u8 y,.sl c off bl gc])]=some ([.agg (.pc [.int .u8 x,.int .u8 y,.ro cb (.pb ((L.drop off).take bl)) τ])],upd H c none):=by simp only[lU,rE,rF,nX,hlive,hw.ids,hw.tg];rw[hw.p]at hcb ⊢;simp[hps,hcb]
  simp only[hns,hfr];simp[aC,ids,qN,hmk,uG,sG,scalars,scalar,aW,tags,AZ]
variable {mm:Nat}
def arZ(x y:Int)(c o b g:Nat):lH X 55 [(0,.int .u8 x),(1,.int .u8 y),(2,.sl c o b g)]=some (.agg (.pc [.int .u8 x,.int .u8 y,.sl c o b g])):=by kernel_rfl
section
variable {H:AM.Heap}{s:Rd}{vr:AV}{τ:Nat}
def aed(O N g:Nat)(out:List Pk)(c off2 bl gc τ2:Nat)(ob:AM.Obj)(L2:List UInt8)(h0:H[0]?=some (some (aX s vr (.sl c off2 bl gc) τ)))(hc:H[c]?=some (some ob))(hw:RwT (.pb L2) gc τ2 ob)(hτ2:τ2=0\/τ2=3)(hoff:off2+bl<=L2.length)(hbl:bl=((L2.drop off2).take bl).length)(hout:PkR 3 H O N g out)(hN:N<=1000000)(c0:0<c)(hcO:c≠O)(hO:0<O) :
 ∃ H',PkR 3 H' O (N+1) (g+1) (out++[⟨s.sq,s.nx,(L2.drop off2).take bl⟩])/\(∀ j,j≠O->j≠c->H'[j]?=H[j]?)/\H'.length=H.length/\H'[c]?=some none/\∃ code,Try.f24.body.bind (ay [1,1,1,1,0,0,0,1,0,1,1,1,1,1,1,1,1,0,0])=some code/\Run X (evT X) 24 mm code (gU O N g [(106,.bool true)]) H ⟨.normal,gU O (N+1) (g+1) [],H'⟩:=by
 obtain⟨cb,hcb,hcb2,hbs⟩:=arY (s.sq:Nat) (s.nx:Nat) hc hw hoff hτ2;have hout2:PkR 3 (upd H c none) O N g out:=by obtain⟨l,ob,τ,h1,h2,h3,h4,h5⟩:=hout;exact⟨l,ob,τ,h1,h2,h3,oN h4 hcO,h5⟩
 obtain⟨H',q1,q2,q3,hA⟩:=aec (p:=⟨s.sq,s.nx,(L2.drop off2).take bl⟩) (v:=.pc [.int .u8 (s.sq:Nat),.int .u8 (s.nx:Nat),.ro cb (.pb ((L2.drop off2).take bl)) τ2]) (src:=.ro 1 (.pr 3 [.pc [.int .u8 (s.sq:Nat),.int .u8 (s.nx:Nat),.ro cb (.pb ((L2.drop off2).take bl)) τ2]]) τ2) hout2 ⟨cb,τ2,hτ2,fun h=>by rw[hcb h];simp,hcb2,rfl⟩ hτ2 (by simp[gJ,jq,kH]) hN;refine⟨H',q1,fun j h1 h2=>by rw[q2 j h1];unfold upd;rw[axU (ax6 h2)],by rw[q3];simp[upd],by rw[q2 c hcO];unfold upd;rw[ayx (jo hc)],_,rfl,?_⟩;have hbv:=arZ (s.sq:Nat) (s.nx:Nat) c off2 bl gc;unfold gU;simp only[aX,Rd.pay]at h0;simp only[upd]at hbs hA;apply Pe;simp[-getElem?_pos,go_sem,h0,aX,Rd.pay,hbv,hbs,hA,ak]
def aee(vb:AV)(O N g:Nat)(h0:H[0]?=some (some (aX s vr vb τ))) :
 ∃ code,Try.f24.body.bind (ay [1,1,1,1,0,0,0,1,0,1,1,1,1,1,1,1,1,0,1])=some code/\Run X (evT X) 24 mm code (gU O N g []) H ⟨.normal,gU O N g [],upd H 0 (some (aX { s with wi:=false } vr (.ro 0 .pn 0) τ))⟩:=by
 refine⟨_,rfl,?_⟩;have h1:(upd H 0 (some (aX s vr (.ro 0 .pn 0) τ)))[0]?=some (some (aX s vr (.ro 0 .pn 0) τ)):=at_set h0;have hs:(upd H 0 (some (aX s vr (.ro 0 .pn 0) τ))).set 0 (some (aX { s with wi:=false } vr (.ro 0 .pn 0) τ))=upd H 0 (some (aX { s with wi:=false } vr (.ro 0 .pn 0) τ)):=by unfold upd;simp
 unfold gU;simp only[aX,Rd.pay,upd]at h0 h1 hs;apply Pe;simp[-getElem?_pos,go_sem,h0,h1,hs,aX,Rd.pay]
end
end Go.Proofs.Ytbodincpjijdiaa
