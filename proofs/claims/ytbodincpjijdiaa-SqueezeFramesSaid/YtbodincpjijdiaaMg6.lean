/- E6 to EF: texts of this claim, one behind the other; what each shows stands at its head. -/
import Derived.Test.YtbodincpjijdiaaMg5
set_option linter.defProp false
set_option linter.unusedSimpArgs false
set_option linter.unusedVariables false
set_option maxRecDepth 100000
set_option maxHeartbeats 8000000
namespace Go.Proofs.Ytbodincpjijdiaa
open Go.AM
def pX(v:AV)(c:Nat)(l:List Px)(i:Nat):AM.Frame:=[(4,v),(7,.ro c (.pr 3 (l.map pxR)) 1),(8,.int .i64 (l.length:Nat)),(9,.int .i64 (i:Nat))]
def lK(v:AV)(q c:Nat)(l:List Px)(i:Nat):AM.Frame:=[(4,v),(6,.ptr q 0 0 0),(7,.ro c (.pr 3 (l.map pxR)) 1),(8,.int .i64 (l.length:Nat)),(9,.int .i64 (i:Nat))]
def afl(l:List AV):nV X 91 l=some (.pc l):=ajn l
def yC(d:Nat):∀ (n:Nat) (o:List UInt8),(lS d n o).length=o.length+n
 | 0,o=>rfl
 | n+1,o=>by rw[lS,yC d n];simp;omega
section
variable {c:Nat}{l:List Px}
def ajq{m i:Nat}{x:Px}{v:AV}{E:AM.Heap}(hx:l[i]?=some x)(hl:l.length<=100000):∃ code,Try.f52.body.bind (ay [1,1,0,1,0,0,1,1,0,0,0])=some code/\Run X (evT X) 52 m code (pX v c l i++[(10,.bool true)]) E ⟨.normal,lK v E.length c l i,E++[some (pxO x)]⟩:=by
 refine⟨_,rfl,?_⟩;have hx':(l.map pxR)[i]?=some (pxR x):=by rw[axP,hx];rfl
 have hi:=eX hx;have hiI:(i:Int)<(l.length:Int):=by omega
 have hll:(l.map pxR).length=l.length:=by simp
 simp only[pX,lK,pxO,pxR]at hx' ⊢;generalize l.map pxR=R at *;generalize l.length=N at *;apply Pe;simp[-getElem?_pos,go_sem,hx',hi,hiI,hll,afl,nZ,retag,CO,yB,splice,jD,scalars,scalar]
theorem ajr {m i q:Nat} {x:Px} {v:AV} {E:AM.Heap} (hq:E[q]? = some (some (pxO x))):∃ code,((Try.f52.body).bind (ay [1,1,0,1,0,0,1,1,0,0,1,0,0])) = some code∧Run X (evT X) 52 m code (lK v q c l i) E ⟨.normal,lK v q c l i ++ [(15,.bool (!oK x))],E⟩:=by
 refine ⟨_,rfl,?_⟩
 have hM:=afk E x
 generalize oK x = d at *
 simp only [lK,pxO,pxR] at hq hM ⊢
 generalize l.map pxR = R at *
 generalize l.length = N at *
 cases d <;> (refine ⟨0,?_⟩;simp (maxSteps:=2000000) -implicitDefEqProofs [-getElem?_pos,go_sem,eqV,ah,hq,hM,afl,nZ,retag])
def FZ:dh X 5=.pb []:=by kernel_rfl
def ajs{m i q N g:Nat}{x:Px}{v:AV}{tl:AM.Frame}{E E':AM.Heap}(hq:E[q]?=some (some (pxO x)))(hA:bG X E 22 v (.ro 1 (.pb [x.byte]) 0)=some (.sl 1 0 N g,E')):∃ code,Try.f52.body.bind (ay [1,1,0,1,0,0,1,1,0,0,1,1,0,1,0,0])=some code/\Run X (evT X) 52 m code (lK v q c l i++tl) E ⟨.normal,pX (.sl 1 0 N g) c l i,E'⟩:=by
 refine⟨_,rfl,?_⟩;have hbs:=bsW E x.byte;simp only[lK,pX,pxO,pxR]at hq ⊢;generalize l.map pxR=R at *;generalize l.length=N at *;apply Pe;simp[-getElem?_pos,go_sem,hq,hA,hbs,ak]
def ajt{m i q g:Nat}{x:Px}{o:List UInt8}{ob:AM.Obj}{tl:AM.Frame}{E:AM.Heap}(hq:E[q]?=some (some (pxO x)))(ho:E[1]?=some (some ob))(hw:Rw (.pb o) g ob):∃ code,Try.f52.body.bind (ay [1,1,0,1,0,0,1,1,0,0,1,1,1,0,0])=some code/\Run X (evT X) 52 m code (lK (.sl 1 0 o.length g) q c l i++tl) E ⟨.normal,lK (.sl 1 0 o.length g) q c l i++[(28,.bool (decide ((o.length:Int)<x.dist)))],E⟩:=by
 refine⟨_,rfl,?_⟩;have hg:=hw.g;simp only[lK,pxO,pxR]at hq ⊢;generalize l.map pxR=R at *;generalize l.length=N at *;generalize o.length=K at *;by_cases h:(K:Int)<x.dist
 .rw [decide_eq_true h];apply Pe;simp[-getElem?_pos,go_sem,hq,ho,hg,h]
 .rw [decide_eq_false h];apply Pe;simp[-getElem?_pos,go_sem,hq,ho,hg,h]
def yt(v:AV)(q c:Nat)(l:List Px)(i n j:Nat):AM.Frame:=[(4,v),(6,.ptr q 0 0 0),(7,.ro c (.pr 3 (l.map pxR)) 1),(8,.int .i64 (l.length:Nat)),(9,.int .i64 (i:Nat)),(30,.int .i64 (n:Nat)),(31,.int .i64 (j:Nat))]
def afm{m i q n j g d:Nat}{x:Px}{o:List UInt8}{ob:AM.Obj}{tl:AM.Frame}{E:AM.Heap}(hq:E[q]?=some (some (pxO x)))(hd:x.dist=(d:Nat))(hd1:1<=d)(hd2:d<=o.length)(ho:E[1]?=some (some ob))(hw:Rw (.pb o) g ob)(hol:o.length<=1000000) :
 ∃ ob',Rw (.pb (o++[o.getD (o.length-d) 0])) (g+1) ob'/\∃ code,Try.f52.body.bind (ay [1,1,0,1,0,0,1,1,0,0,1,1,1,1,1,0,0,1,1,0,0])=some code/\Run X (evT X) 52 m code (yt (.sl 1 0 o.length g) q c l i n j++tl) E ⟨.normal,yt (.sl 1 0 (o.length+1) (g+1)) q c l i n j,upd E 1 (some ob')⟩:=by
 have hy:o[o.length-d]?=some (o.getD (o.length-d) 0):=by rw[axQ,axI (by omega)];rfl
 generalize o.getD (o.length-d) 0=y at *;obtain⟨ob',w1,w2⟩:=Dc (C:=X) (T:=22) (e:=5) (H:=E) (o:=1) (m:=[y]) (src:=.ro 1 (.pb [y]) 0) lM Ai nO bytes5 vN ho hw (.inl (by simp[gJ,jq,kH])) (by simp;omega);refine⟨ob',w1,_,rfl,?_⟩;have hbs:=bsW E y;have q1:=hw.p;have q2:=hw.g;have q4:=hw.ids;have q5:=hw.tg;have w3:IntKind.i64.wrap ((o.length:Int)-(d:Int))=((o.length-d:Nat):Int):=by rw[wrap_i64 (by omega) (by omega)];omega
 have hlt:o.length-d<o.length:=by omega
 have rW:((o.length-d:Nat):Int)<(o.length:Int):=by omega
 simp only[azp]at w2;simp only[yt,pxO,pxR,hd]at hq ⊢;generalize l.map pxR=R at *;generalize l.length=N at *;generalize o.length-d=kd at *;generalize hK:o.length=K at *;generalize K + 1=K1 at *;apply Pe;simp[-getElem?_pos,go_sem,hq,ho,q1,q2,q4,q5,w3,hy,hlt,rW,hbs,w2,hK,ak]
end
section
variable {c:Nat}{l:List Px}
def acz{m i q n g d:Nat}{x:Px}{o:List UInt8}{ob:AM.Obj}{E:AM.Heap}(hq:E[q]?=some (some (pxO x)))(hq1:q≠1)(hd:x.dist=(d:Nat))(hd1:1<=d)(hd2:d<=o.length)(ho:E[1]?=some (some ob))(hw:Rw (.pb o) g ob)(hol:o.length+n<=1000000) :
 ∃ code,Try.f52.body.bind (ay [1,1,0,1,0,0,1,1,0,0,1,1,1,1,1])=some code/\aj (Goes fun fr E'=>∃ g' ob',dF [4,7,8,9] fr=pX (.sl 1 0 (lS d n o).length g') c l i/\E'[1]?=some (some ob')/\Rw (.pb (lS d n o)) g' ob') X (evT X) 52 m code (yt (.sl 1 0 o.length g) q c l i n 0) E:=by
 refine⟨_,rfl,?_⟩;apply aj.block;refine aj.jP (I:=fun k fr E'=>∃ j o' g' ob',j<=n/\k=n-j/\fr=yt (.sl 1 0 o'.length g') q c l i n j/\E'[q]?=some (some (pxO x))/\E'[1]?=some (some ob')/\Rw (.pb o') g' ob'/\o'.length=o.length+j/\lS d (n-j) o'=lS d n o) ?_ (k:=n) ⟨0,o,g,ob,by omega,rfl,rfl,hq,ho,hw,rfl,rfl⟩;rintro k fr E' ⟨j,o',g',ob',hj,rfl,rfl,hq',ho',hw',hlen,hc⟩;by_cases hjn:j=n
 .subst hjn;rw[azI]at hc;refine aj.of (o:=⟨.exit 2,yt (.sl 1 0 o'.length g') q c l i j j++[(32,.bool false)],E'⟩) ?_ (.inr ⟨by simp,rfl,g',ob',by rw[<- hc];simp[yt,pX,dF,aB,lS],ho',by rw[<- hc];exact hw'⟩);refine⟨0,?_⟩;simp only[yt];generalize l.map pxR=R at *;generalize l.length=N at *;generalize o'.length=K at *;simp[-getElem?_pos,go_sem]
 .have hlt:j<n:=by omega
  have rW:(j:Int)<(n:Int):=by omega
  obtain⟨ob2,w1,hr⟩:=afm (m:=m) (c:=c) (l:=l) (i:=i) (n:=n) (j:=j) (tl:=[(32,.bool true)]) hq' hd hd1 (by omega) ho' hw' (by omega);have hn1:n-j=(n-(j+1))+1:=by omega
  rw[hn1,lS]at hc;refine aj.of (o:=⟨.normal,yt (.sl 1 0 (o'.length+1) (g'+1)) q c l i n (j+1),upd E' 1 (some ob2)⟩) ?_ (.inl ⟨rfl,n-(j+1),by omega,j+1,o'++[o'.getD (o'.length-d) 0],g'+1,ob2,by omega,rfl,by simp,rV hq' (ax6 hq1),setAt ho',w1,by simp;omega,hc⟩);apply Run.seq (fr':=yt (.sl 1 0 o'.length g') q c l i n j++[(32,.bool true)]) (H':=E')
  .simp only[yt];generalize l.map pxR=R at *;generalize l.length=N at *;generalize o'.length=K at *;apply Pe;simp[-getElem?_pos,go_sem,rW,hlt]
  apply Run.seq (fr':=yt (.sl 1 0 o'.length g') q c l i n j++[(32,.bool true)]) (H':=E')
  .exact Run.cond (d:=true) (by simp[yt,aJ,aB]) ⟨0,rfl⟩
  apply Run.seq (fr':=yt (.sl 1 0 (o'.length+1) (g'+1)) q c l i n j) (H':=upd E' 1 (some ob2))
  .apply Run.block
   .exact piece hr _ rfl
   .simp
  .have w4:IntKind.i64.wrap ((j:Int)+1)=((j+1:Nat):Int):=by rw[wrap_i64 (by omega) (by omega)];omega
   generalize j + 1=j1 at *;simp only[yt];generalize l.map pxR=R at *;generalize l.length=N at *;generalize o'.length + 1=K at *;apply Pe;simp[-getElem?_pos,go_sem,w4]
def exX(l:List Px)(fr:AM.Frame)(E:AM.Heap):Prop:=∃ o e a g ob,kQ l []=(o,e)/\aB fr 2=.sl a 0 o.length g/\aB fr 3=.int .i64 e/\E[a]?=some (some ob)/\Rw (.pb o) g ob
def L9{x:Px}(h:oK x=true)(h0:¬ x.len=0):∃ n d:Nat,x.len=n/\x.dist=d/\3<=n/\n<=258/\1<=d:=by
 unfold oK at h;rw[if_neg h0]at h;simp at h;exact⟨x.len.toNat,x.dist.toNat,by omega,by omega,by omega,by omega,by omega⟩
def acA{m i g:Nat}{x:Px}{o:List UInt8}{ob:AM.Obj}{E:AM.Heap}(hx:l[i]?=some x)(hl:l.length<=2000)(ho:E[1]?=some (some ob))(hw:Rw (.pb o) g ob)(hol:o.length<=258*i)(he:kQ (l.drop i) o=kQ l []) :
 ∃ code,Try.f52.body.bind (ay [1,1,0,1,0,0,1,1])=some code/\aj (fun out=>(out.ex=.normal/\∃ o' g' ob',out.fr=pX (.sl 1 0 o'.length g') c l (i+1)/\out.H[1]?=some (some ob')/\Rw (.pb o') g' ob'/\o'.length<=258*(i+1)/\kQ (l.drop (i+1)) o'=kQ l [])\/(out.ex=.ret/\exX l out.fr out.H)) X (evT X) 52 m code (pX (.sl 1 0 o.length g) c l i++[(10,.bool true)]) E:=by
 refine⟨_,rfl,?_⟩;have hi:=eX hx;have hdrop:l.drop i=x::l.drop (i+1):=by rw[ayz hi];rw[axI hi]at hx;rw[axN hx]
 rw[hdrop,kQ]at he;have hg:=hw.g;have hE1:=eX ho;have hq:(E++[some (pxO x)])[E.length]?=some (some (pxO x)):=by simp
 have ho2:(E++[some (pxO x)])[1]?=some (some ob):=by rw[axL hE1];exact ho
 have hr4:=ajq (m:=m) (c:=c) (v:=.sl 1 0 o.length g) (E:=E) hx (by omega);have hq1:E.length≠1:=by omega
 generalize E++[some (pxO x)]=E0 at *;generalize E.length=q at *;have hr5:=ajr (m:=m) (c:=c) (l:=l) (i:=i) (v:=.sl 1 0 o.length g) hq;have w1:IntKind.i64.wrap ((i:Int)+1)=((i+1:Nat):Int):=by rw[wrap_i64 (by omega) (by omega)];omega
 by_cases hm:oK x=false
 .rw [if_pos hm]at he;rw[hm]at hr5;refine aj.of (o:=⟨.ret,[(2,.sl E0.length 0 0 0),(3,.int .i64 2)],E0++[some (⟨.pb [],0,none,0,true,false,0⟩:AM.Obj)]⟩) ?_ (.inr ⟨rfl,[],2,E0.length,0,_,he.symm,rfl,rfl,ayl,⟨rfl,rfl,rfl,rfl,rfl⟩⟩);refine Run.bK ?_ (by simp);refine Run.block ?_ (by simp);apply Run.seq (piece hr4 _ rfl);refine Run.bK ?_ (by simp);apply Run.seq (piece hr5 _ rfl);refine Run.cond (d:=true) (by simp[lK,aJ,aB]) ?_;apply Run.seq (fr':=[(2,.sl E0.length 0 0 0),(3,.int .i64 2)]) (H':=E0++[some (⟨.pb [],0,none,0,true,false,0⟩:AM.Obj)])
  .simp only[lK];generalize l.map pxR=R at *;generalize l.length=N at *;generalize o.length=K at *;apply Pe;simp[-getElem?_pos,go_sem,ak,rowOf,FZ]
  .exact ⟨0,rfl⟩
 have hmt:oK x=true:=by simpa using hm
 rw[if_neg hm]at he;rw[hmt]at hr5;by_cases h0:x.len=0
 .rw [if_pos h0]at he;obtain⟨ob',k1,k2⟩:=Dc (C:=X) (T:=22) (e:=5) (H:=E0) (o:=1) (m:=[x.byte]) (src:=.ro 1 (.pb [x.byte]) 0) lM Ai nO bytes5 vN ho2 hw (.inl (by simp[gJ,jq,kH])) (by simp;omega);simp only[azp]at k2;have hr8:=ajs (m:=m) (c:=c) (l:=l) (i:=i) (tl:=[(18,.bool true)]) hq k2;refine aj.of (o:=⟨.normal,pX (.sl 1 0 (o.length+1) (g+1)) c l (i+1),upd E0 1 (some ob')⟩) ?_ (.inl ⟨rfl,o++[x.byte],g+1,ob',by simp,setAt ho2,k1,by simp;omega,he⟩);apply Run.seq (fr':=pX (.sl 1 0 (o.length+1) (g+1)) c l i) (H':=upd E0 1 (some ob'))
  .refine Run.iM ?_;apply Run.seq (piece hr4 _ rfl);apply Run.seq (fr':=lK (.sl 1 0 o.length g) q c l i++[(15,.bool false)]) (H':=E0)
   .apply Run.seq (piece hr5 _ rfl);exact Run.cond (d:=false) (by simp[lK,aJ,aB]) ⟨0,rfl⟩
   refine Run.bK ?_ (by simp);apply Run.seq (fr':=lK (.sl 1 0 o.length g) q c l i++[(18,.bool true)]) (H':=E0)
   .simp only[lK,pxO,pxR,h0]at hq ⊢;generalize l.map pxR=R at *;generalize l.length=N at *;generalize o.length=K at *;apply Pe;simp[-getElem?_pos,go_sem,hq]
   refine Run.cond (d:=true) (by simp[lK,aJ,aB]) ?_;exact Run.seq (piece hr8 _ rfl) ⟨0,rfl⟩
  .simp only[pX];generalize l.map pxR=R at *;generalize l.length=N at *;generalize o.length + 1=K at *;generalize i + 1=i1 at *;apply Pe;simp[-getElem?_pos,go_sem,w1]
 rw[if_neg h0]at he;obtain⟨n,d,hn,hd,n3,n258,d1⟩:=L9 hmt h0;have hr9:=ajt (m:=m) (c:=c) (l:=l) (i:=i) (x:=x) (tl:=[(18,.bool false)]) hq ho2 hw;have hr7:∃ code,Try.f52.body.bind (ay [1,1,0,1,0,0,1,1,0,0,1,1,0,0])=some code/\Run X (evT X) 52 m code (lK (.sl 1 0 o.length g) q c l i++[(15,.bool false)]) E0 ⟨.normal,lK (.sl 1 0 o.length g) q c l i++[(18,.bool false)],E0⟩:=by
  refine⟨_,rfl,?_⟩;have h0b:(x.len==0)=false:=by simpa using h0
  simp only[lK,pxO,pxR]at hq ⊢;generalize l.map pxR=R at *;generalize l.length=N at *;generalize o.length=K at *;apply Pe;simp[-getElem?_pos,go_sem,hq,h0,h0b]
 by_cases hbig:(o.length:Int)<x.dist
 .rw [if_pos hbig]at he;rw[decide_eq_true hbig]at hr9;refine aj.of (o:=⟨.ret,[(2,.sl E0.length 0 0 0),(3,.int .i64 5)],E0++[some (⟨.pb [],0,none,0,true,false,0⟩:AM.Obj)]⟩) ?_ (.inr ⟨rfl,[],5,E0.length,0,_,he.symm,rfl,rfl,ayl,⟨rfl,rfl,rfl,rfl,rfl⟩⟩);refine Run.bK ?_ (by simp);refine Run.block ?_ (by simp);apply Run.seq (piece hr4 _ rfl);apply Run.seq (fr':=lK (.sl 1 0 o.length g) q c l i++[(15,.bool false)]) (H':=E0)
  .apply Run.seq (piece hr5 _ rfl);exact Run.cond (d:=false) (by simp[lK,aJ,aB]) ⟨0,rfl⟩
  apply Run.seq (fr':=lK (.sl 1 0 o.length g) q c l i++[(18,.bool false)]) (H':=E0)
  .apply Run.seq (piece hr7 _ rfl);exact Run.cond (d:=false) (by simp[lK,aJ,aB]) ⟨0,rfl⟩
  refine Run.bK ?_ (by simp);apply Run.seq (piece hr9 _ rfl);refine Run.cond (d:=true) (by simp[lK,aJ,aB]) ?_;apply Run.seq (fr':=[(2,.sl E0.length 0 0 0),(3,.int .i64 5)]) (H':=E0++[some (⟨.pb [],0,none,0,true,false,0⟩:AM.Obj)])
  .simp only[lK];generalize l.map pxR=R at *;generalize l.length=N at *;generalize o.length=K at *;apply Pe;simp[-getElem?_pos,go_sem,ak,rowOf,FZ]
  .exact ⟨0,rfl⟩
 rw[if_neg hbig,hn,hd]at he;simp only[ayA]at he;rw[decide_eq_false hbig]at hr9;have hcl:=yC d n o;obtain⟨ada,hcB,⟨⟨ex,fr,E2⟩,⟨he2,g',ob',hfr,ho',hw'⟩,hrB⟩⟩:=acz (m:=m) (c:=c) (l:=l) (i:=i) (n:=n) hq hq1 hd d1 (by omega) ho2 hw (by omega);simp only at he2 hfr ho';subst he2;refine aj.of (o:=⟨.normal,pX (.sl 1 0 (lS d n o).length g') c l (i+1),E2⟩) ?_ (.inl ⟨rfl,lS d n o,g',ob',rfl,ho',hw',by rw[hcl];omega,he⟩);apply Run.seq (fr':=fr) (H':=E2)
 .refine Run.block ?_ (by simp);apply Run.seq (piece hr4 _ rfl);apply Run.seq (fr':=lK (.sl 1 0 o.length g) q c l i++[(15,.bool false)]) (H':=E0)
  .apply Run.seq (piece hr5 _ rfl);exact Run.cond (d:=false) (by simp[lK,aJ,aB]) ⟨0,rfl⟩
  apply Run.seq (fr':=lK (.sl 1 0 o.length g) q c l i++[(18,.bool false)]) (H':=E0)
  .apply Run.seq (piece hr7 _ rfl);exact Run.cond (d:=false) (by simp[lK,aJ,aB]) ⟨0,rfl⟩
  apply Run.seq (fr':=lK (.sl 1 0 o.length g) q c l i++[(28,.bool false)]) (H':=E0)
  .apply Run.seq (piece hr9 _ rfl);exact Run.cond (d:=false) (by simp[lK,aJ,aB]) ⟨0,rfl⟩
  apply Run.seq (fr':=yt (.sl 1 0 o.length g) q c l i n 0) (H':=E0)
  .simp only[lK,yt,pxO,pxR,hn]at hq ⊢;generalize l.map pxR=R at *;generalize l.length=N at *;generalize o.length=K at *;apply Pe;simp[-getElem?_pos,go_sem,hq]
  .exact (axN hcB) ▸ hrB
 .have g4:aB fr 4=.sl 1 0 (lS d n o).length g':=by simpa[dF,pX,aB]using congrArg (fun f=>aB f 4) hfr
  have g7:aB fr 7=.ro c (.pr 3 (l.map pxR)) 1:=by simpa[dF,pX,aB]using congrArg (fun f=>aB f 7) hfr
  have g8:aB fr 8=.int .i64 (l.length:Nat):=by simpa[dF,pX,aB]using congrArg (fun f=>aB f 8) hfr
  have g9:aB fr 9=.int .i64 (i:Nat):=by simpa[dF,pX,aB]using congrArg (fun f=>aB f 9) hfr
  simp only[pX];generalize l.map pxR=R at *;generalize l.length=N at *;generalize (lS d n o).length=K at *;generalize i + 1=i1 at *;apply Pe;simp[-getElem?_pos,go_sem,g4,g7,g8,g9,w1]
end
section
variable {c:Nat}{l:List Px}
def Pj{m:Nat}(hl:l.length<=2000):∃ code,Try.f52.body=some code/\aj (lG (exX l)) X (evT X) 52 m code [(0,.ro c (.pr 3 (l.map pxR)) 1)] []:=by
 refine⟨_,rfl,?_⟩;apply aj.seq (fr':=[(0,.ro c (.pr 3 (l.map pxR)) 1)]) (H':=[some (⟨.pb [],0,none,0,true,false,0⟩:AM.Obj)])
 .generalize l.map pxR=R at *;apply Pe;simp[-getElem?_pos,go_sem,ak,rowOf,FZ]
 apply aj.seq (fr':=[(0,.ro c (.pr 3 (l.map pxR)) 1),(4,.sl 1 0 0 0)]) (H':=[some (⟨.pb [],0,none,0,true,false,0⟩:AM.Obj),some (⟨.pb [],0,none,0,true,false,0⟩:AM.Obj)])
 .generalize l.map pxR=R at *;apply Pe;simp[-getElem?_pos,go_sem,ak,rowOf,FZ]
 have hE:([some (⟨.pb [],0,none,0,true,false,0⟩:AM.Obj),some (⟨.pb [],0,none,0,true,false,0⟩:AM.Obj)]:AM.Heap)[1]?=some (some ⟨.pb [],0,none,0,true,false,0⟩):=rfl;generalize [some (⟨.pb [],0,none,0,true,false,0⟩:AM.Obj),some (⟨.pb [],0,none,0,true,false,0⟩:AM.Obj)]=E0 at *;apply aj.assoc;apply aj.seq (fr':=pX (.sl 1 0 0 0) c l 0) (H':=E0)
 .have hll:(l.map pxR).length=l.length:=by simp
  simp only[pX];generalize l.map pxR=R at *;generalize l.length=N at *;apply Pe;simp[-getElem?_pos,go_sem,hll]
 refine aj.I5 (P:=fun fr E=>∃ o g ob,kQ l []=(o,0)/\aB fr 4=.sl 1 0 o.length g/\E[1]?=some (some ob)/\Rw (.pb o) g ob) ?_ ?_
 .refine aj.jP (I:=fun k fr E'=>∃ i o g ob,i<=l.length/\k=l.length-i/\fr=pX (.sl 1 0 o.length g) c l i/\E'[1]?=some (some ob)/\Rw (.pb o) g ob/\o.length<=258*i/\kQ (l.drop i) o=kQ l []) ?_ (k:=l.length) ⟨0,[],0,_,by omega,rfl,rfl,hE,⟨rfl,rfl,rfl,rfl,rfl⟩,by simp,rfl⟩;rintro k fr E' ⟨i,o,g,ob,hi,rfl,rfl,ho,hw,hol,he⟩;by_cases hin:i=l.length
  .rw [azm (by omega),kQ]at he;refine aj.of (o:=⟨.exit 0,pX (.sl 1 0 o.length g) c l i++[(10,.bool false)],E'⟩) ?_ (.inr ⟨by simp,.inl ⟨rfl,o,g,ob,he.symm,by simp[pX,aB],ho,hw⟩⟩);subst hin;refine⟨0,?_⟩;simp only[pX];generalize l.map pxR=R at *;generalize l.length=N at *;generalize o.length=K at *;simp[-getElem?_pos,go_sem]
  .have hlt:i<l.length:=by omega
   have rW:(i:Int)<(l.length:Int):=by omega
   obtain⟨x,hx⟩:∃ x,l[i]?=some x:=⟨_,axI hlt⟩;apply aj.seq (fr':=pX (.sl 1 0 o.length g) c l i++[(10,.bool true)]) (H':=E')
   .simp only[pX];generalize l.map pxR=R at *;generalize l.length=N at *;generalize o.length=K at *;apply Pe;simp[-getElem?_pos,go_sem,rW,hlt]
   apply aj.seq (fr':=pX (.sl 1 0 o.length g) c l i++[(10,.bool true)]) (H':=E')
   .exact Run.cond (d:=true) (by simp[pX,aJ,aB]) ⟨0,rfl⟩
   refine(piece (acA (m:=m) (c:=c) hx hl ho hw hol he) _ rfl).mono ?_;rintro out (⟨h1,o',g',ob',h2,h3,h4,h5,h6⟩|⟨h1,h2⟩)
   .exact .inl ⟨h1,l.length-(i+1),by omega,i+1,o',g',ob',by omega,rfl,h2,h3,h4,h5,h6⟩
   .exact .inr ⟨by rw[h1];simp,.inr ⟨h1,h1,h2⟩⟩
 .rintro fr E' ⟨o,g,ob,he,h4,ho,hw⟩;refine aj.of (o:=⟨.ret,[(2,.sl 1 0 o.length g),(3,.int .i64 0)],E'⟩) ?_ ⟨rfl,o,0,1,g,ob,he,rfl,rfl,ho,hw⟩;refine⟨0,?_⟩;generalize o.length=K at *;simp[-getElem?_pos,go_sem,h4,ak]
def UA{H:AM.Heap}{a:AV}(ha:fJ H a=some (.pr 3 (l.map pxR)))(hl:l.length<=2000):∃ ob,Rw (.pb (kQ l []).1) 0 ob/\evT X 52 [a] H=some (.tup [.sl H.length 0 (kQ l []).1.length 0,.int .i64 (kQ l []).2],H++[some ob]):=by
 obtain⟨c,x,hx⟩:=iy (C:=X) (f:=52) (i:=0) rfl ha (dR 1);obtain⟨code,hc,⟨out,⟨ho,o,e,a2,g,ob,h1,h2,h3,h4,hw⟩,hrun⟩⟩:=Pj (m:=0) (c:=c) (l:=l) hl;rw[h1];obtain⟨ob',q1,q2⟩:=Ev1.Kz (C:=X) (H:=H) (bC X) (n:=o.length) (l:=o) (rest:=[.int .i64 e]) Try.func52 hc hx rfl (by simp[dA]) rfl rfl rfl (by
  rw[agt];refine⟨out,⟨ho,a2,g,ob,?_,h4,hw⟩,hrun⟩;show aT X out.fr out.H [.tmp 2,.tmp 3]=_;simp[aT,h2,h3])
 exact⟨ob',q1,dI (by simpa[aG,dB]using q2)⟩
end
def gF(per n:Nat):Nat->Nat->Nat->Nat->Nat->Nat×Nat×Nat
 | 0,s,base,bits,_=>(s,base,bits)
 | f+1,s,base,bits,j=>if j=per then gF per n f s base (bits+1) 0 else if n<base+2 ^ bits then(s,base,bits)else gF per n f (s+1) (base+2 ^ bits) bits (j+1)
def gOk(per n:Nat):Nat->Nat->Nat->Nat->Nat->Bool
 | 0,_,_,_,_=>false
 | f+1,s,base,bits,j=>if j=per then gOk per n f s base (bits+1) 0 else if n<base+2 ^ bits then true else gOk per n f (s+1) (base+2 ^ bits) bits (j+1)
def eu(n s base bits:Nat):AM.Frame:=[(0,.int .i64 (n:Nat)),(2,.int .i64 (s:Nat)),(3,.int .i64 (base:Nat)),(4,.int .i64 (bits:Nat))]
def Z9{bits:Nat}(h:bits<=40):IntKind.i64.wrap (2 ^ min bits 64)=((2 ^ bits:Nat):Int):=by
 rw[ayG (by omega)];have h1:2 ^ bits<=2 ^ 40:=ayo (by omega) h;have h2:(2:Int) ^ bits=((2 ^ bits:Nat):Int):=by push_cast;rfl
 rw[h2];generalize 2 ^ bits=u at *;exact wrap_i64 (by omega) (by omega)
def acB{m n s base bits j:Nat}{E:AM.Heap}(hn:n<=100000)(hs:s<=1000)(yu:bits<=40)(hb:base<=n+100000)(hj:j<4) :
 ∃ code,Try.f57.body.bind (ay [1,1,1,1,1,0,0,0,0,1,0,0,1,1])=some code/\Run X (evT X) 57 m code (eu n s base bits++[(15,.int .i64 (j:Nat)),(16,.bool true)]) E (if n<base+2 ^ bits then⟨.ret,[(2,.int .i64 (s:Nat)),(3,.int .i64 (base:Nat)),(4,.int .i64 (bits:Nat))],E⟩else⟨.normal,eu n (s+1) (base+2 ^ bits) bits++[(15,.int .i64 (j+1:Nat))],E⟩):=by
 refine⟨_,rfl,?_⟩;have h1:2 ^ bits<=2 ^ 40:=ayo (by omega) yu;have hp:=Z9 yu;generalize 2 ^ bits=pw at *;have hb0:¬ (bits:Int)<0:=by omega
 have w1:IntKind.i64.wrap ((base:Int)+((pw:Nat):Int))=((base+pw:Nat):Int):=by rw[wrap_i64 (by omega) (by omega)];omega
 have w2:IntKind.i64.wrap ((s:Int)+1)=((s+1:Nat):Int):=by rw[wrap_i64 (by omega) (by omega)];omega
 have w3:IntKind.i64.wrap ((j:Int)+1)=((j+1:Nat):Int):=by rw[wrap_i64 (by omega) (by omega)];omega
 by_cases h:n<base+pw
 .rw [if_pos h];have hI:(n:Int)<((base+pw:Nat):Int):=by omega
  generalize base + pw=nb at *;refine Run.bK ?_ (by simp);refine Run.block ?_ (by simp);refine Run.bK ?_ (by simp);apply Run.seq (fr':=eu n s base bits++[(15,.int .i64 (j:Nat)),(22,.bool true)]) (H':=E)
  .simp only[eu];apply Pe;simp[-getElem?_pos,go_sem,hp,hb0,w1,hI,h]
  refine Run.cond (d:=true) (by simp[eu,aJ,aB]) ?_;apply Run.seq (fr':=[(2,.int .i64 (s:Nat)),(3,.int .i64 (base:Nat)),(4,.int .i64 (bits:Nat))]) (H':=E)
  .simp only[eu];apply Pe;simp[-getElem?_pos,go_sem,ak]
  .exact ⟨0,rfl⟩
 .rw [if_neg h];have hI:¬ (n:Int)<((base+pw:Nat):Int):=by omega
  generalize base + pw=nb at *;generalize s + 1=s1 at *;generalize j + 1=j1 at *;apply Run.seq (fr':=eu n s1 nb bits++[(15,.int .i64 (j:Nat))]) (H':=E)
  .refine Run.block ?_ (by simp);apply Run.seq (fr':=eu n s base bits++[(15,.int .i64 (j:Nat)),(22,.bool false)]) (H':=E)
   .apply Run.seq (fr':=eu n s base bits++[(15,.int .i64 (j:Nat)),(22,.bool false)]) (H':=E)
    .simp only[eu];apply Pe;simp[-getElem?_pos,go_sem,hp,hb0,w1,hI,h]
    .exact Run.cond (d:=false) (by simp[eu,aJ,aB]) ⟨0,rfl⟩
   .simp only[eu];apply Pe;simp[-getElem?_pos,go_sem,hp,hb0,w1,w2,ak]
  .simp only[eu];apply Pe;simp[-getElem?_pos,go_sem,w3]
def lnR(R:Nat×Nat×Nat):AM.Frame:=[(2,.int .i64 (R.1:Nat)),(3,.int .i64 (R.2.1:Nat)),(4,.int .i64 (R.2.2:Nat))]
def aju{m n s base bits f:Nat}{R:Nat×Nat×Nat}{E:AM.Heap}(hn:n<=100000)(hs:s+f<=900)(yu:bits+f<=41)(hb:base<=n+100000)(hok:gOk 4 n f s base bits 0=true)(hR:gF 4 n f s base bits 0=R) :
 ∃ code,Try.f57.body.bind (ay [1,1,1,1,1,0,0,0,0,1])=some code/\aj (fun o=>(o.ex=.normal/\o.H=E/\∃ s' base' f',f'<f/\s'+f'<=900/\bits+1+f'<=41/\base'<=n+100000/\dF [0,2,3,4] o.fr=eu n s' base' bits/\gOk 4 n f' s' base' (bits+1) 0=true/\gF 4 n f' s' base' (bits+1) 0=R)\/(o.ex=.ret/\o.fr=lnR R/\o.H=E)) X (evT X) 57 m code (eu n s base bits++[(15,.int .i64 (0:Nat))]) E:=by
 refine⟨_,rfl,?_⟩;refine aj.mono (aj.AY (P:=fun fr H=>H=E/\∃ s' base' f',f'<f/\s'+f'<=900/\bits+1+f'<=41/\base'<=n+100000/\dF [0,2,3,4] fr=eu n s' base' bits/\gOk 4 n f' s' base' (bits+1) 0=true/\gF 4 n f' s' base' (bits+1) 0=R) (Q:=fun o=>o.ex=.ret/\o.fr=lnR R/\o.H=E) ?_) ?_
 .refine aj.jP (I:=fun k fr H=>∃ s' base' j,k<=f/\s'+k<=900/\base'<=n+100000/\j<=4/\fr=eu n s' base' bits++[(15,.int .i64 (j:Nat))]/\H=E/\gOk 4 n k s' base' bits j=true/\gF 4 n k s' base' bits j=R) ?_ (k:=f) ⟨s,base,0,by omega,hs,hb,by omega,rfl,rfl,hok,hR⟩;rintro k fr H ⟨s',base',j,hk,hsk,hb',hj,rfl,rfl,hok',hR'⟩;cases k with
  | zero=>simp[gOk]at hok'
  | succ k=>
   rw[gOk]at hok';rw[gF]at hR';by_cases hj4:j=4
   .subst hj4;rw[if_pos rfl]at hok' hR';refine aj.of (o:=⟨.exit 2,eu n s' base' bits++[(15,.int .i64 (4:Nat)),(16,.bool false)],H⟩) ?_ (.inr ⟨by simp,.inl ⟨rfl,rfl,s',base',k,by omega,by omega,by omega,hb',by simp[eu,dF,aB],hok',hR'⟩⟩);refine⟨0,?_⟩;simp only[eu];simp[-getElem?_pos,go_sem]
   .rw [if_neg hj4]at hok' hR';have hjl:j<4:=by omega
    have hjI:(j:Int)<4:=by omega
    have hst:=acB (m:=m) (E:=H) (s:=s') (base:=base') (bits:=bits) (j:=j) hn (by omega) (by omega) hb' hjl;by_cases hlt:n<base'+2 ^ bits
    .rw [if_pos hlt]at hok' hR' hst;subst hR';refine aj.of (o:=⟨.ret,lnR (s',base',bits),H⟩) ?_ (.inr ⟨by simp,.inr ⟨rfl,rfl,rfl,rfl⟩⟩);apply Run.seq (fr':=eu n s' base' bits++[(15,.int .i64 (j:Nat)),(16,.bool true)]) (H':=H)
     .simp only[eu];apply Pe;simp[-getElem?_pos,go_sem,hjI,hjl]
     apply Run.seq (fr':=eu n s' base' bits++[(15,.int .i64 (j:Nat)),(16,.bool true)]) (H':=H)
     .exact Run.cond (d:=true) (by simp[eu,aJ,aB]) ⟨0,rfl⟩
     exact piece hst _ rfl
    .rw [if_neg hlt]at hok' hR' hst;refine aj.of (o:=⟨.normal,eu n (s'+1) (base'+2 ^ bits) bits++[(15,.int .i64 (j+1:Nat))],H⟩) ?_ (.inl ⟨rfl,k,by omega,s'+1,base'+2 ^ bits,j+1,by omega,by omega,by omega,by omega,rfl,rfl,hok',hR'⟩);apply Run.seq (fr':=eu n s' base' bits++[(15,.int .i64 (j:Nat)),(16,.bool true)]) (H':=H)
     .simp only[eu];apply Pe;simp[-getElem?_pos,go_sem,hjI,hjl]
     apply Run.seq (fr':=eu n s' base' bits++[(15,.int .i64 (j:Nat)),(16,.bool true)]) (H':=H)
     .exact Run.cond (d:=true) (by simp[eu,aJ,aB]) ⟨0,rfl⟩
     exact piece hst _ rfl
 .rintro o (⟨h1,h2⟩|⟨h1,h2⟩)
  .exact .inl ⟨h1,h2⟩
  .exact .inr h2
def lenOf(n:Nat):Nat×Nat×Nat:=if n=258 then(285,n,0)else if n<=10 then(254+n,n,0)else gF 4 n 40 265 11 1 0
def Cc{per n n':Nat}(h:n<=n'):∀ (f s base bits j:Nat),gOk per n' f s base bits j=true->gOk per n f s base bits j=true
 | 0,_,_,_,_,h1=>by cases h1
 | f+1,s,base,bits,j,h1=>by
  unfold gOk at h1 ⊢;split
  .rename_i hj;rw[if_pos hj]at h1;exact Cc h f _ _ _ _ h1
  .rename_i hj;rw[if_neg hj]at h1;split
   .rfl
   .rename_i hn;rw[if_neg (by omega)]at h1;exact Cc h f _ _ _ _ h1
def afn{n:Nat}(h:n<=258):gOk 4 n 40 265 11 1 0=true:=Cc h _ _ _ _ _ (by decide +kernel)
def Pm{m n:Nat}{E:AM.Heap}(h:n<=258):∃ code,Try.f57.body=some code/\aj (fun o=>o.ex=.ret/\o.fr=lnR (lenOf n)/\o.H=E) X (evT X) 57 m code [(0,.int .i64 (n:Nat))] E:=by
 refine⟨_,rfl,?_⟩;unfold lenOf;apply aj.seq (fr':=[(0,.int .i64 (n:Nat))]) (H':=E)
 .apply Pe;simp[-getElem?_pos,go_sem,ak]
 by_cases h1:n=258
 .subst h1;rw[if_pos rfl];refine aj.of (o:=⟨.ret,lnR (285,258,0),E⟩) ?_ ⟨rfl,rfl,rfl⟩;refine⟨0,?_⟩;simp only[lnR];simp[-getElem?_pos,go_sem,ak]
 have h1I:¬ (n:Int)=258:=by omega
 have h1b:((n:Int)==258)=false:=by simpa using h1I
 rw[if_neg h1];apply aj.assoc;apply aj.seq (fr':=[(0,.int .i64 (n:Nat)),(6,.bool false)]) (H':=E)
 .apply Pe;simp[-getElem?_pos,go_sem,h1,h1I,h1b]
 apply aj.seq (fr':=[(0,.int .i64 (n:Nat)),(6,.bool false)]) (H':=E)
 .exact Run.cond (d:=false) (by simp[aJ,aB]) ⟨0,rfl⟩
 by_cases h2:n<=10
 .rw [if_pos h2];have h2I:(n:Int)<=10:=by omega
  have w1:IntKind.i64.wrap (254+(n:Int))=((254+n:Nat):Int):=by rw[wrap_i64 (by omega) (by omega)];omega
  refine aj.of (o:=⟨.ret,lnR (254+n,n,0),E⟩) ?_ ⟨rfl,rfl,rfl⟩;refine⟨0,?_⟩;simp only[lnR];generalize 254 + n=s at *;simp[-getElem?_pos,go_sem,h2,h2I,w1,ak]
 rw[if_neg h2];have h2I:¬ (n:Int)<=10:=by omega
 apply aj.assoc;apply aj.seq (fr':=[(0,.int .i64 (n:Nat)),(9,.bool false)]) (H':=E)
 .apply Pe;simp[-getElem?_pos,go_sem,h2,h2I]
 apply aj.seq (fr':=[(0,.int .i64 (n:Nat)),(9,.bool false)]) (H':=E)
 .exact Run.cond (d:=false) (by simp[aJ,aB]) ⟨0,rfl⟩
 apply aj.seq (fr':=[(0,.int .i64 (n:Nat)),(2,.int .i64 265),(3,.int .i64 11)]) (H':=E)
 .apply Pe;simp[-getElem?_pos,go_sem,ak]
 apply aj.seq (fr':=eu n 265 11 1) (H':=E)
 .simp only[eu];apply Pe;simp[-getElem?_pos,go_sem,ak]
 refine aj.blk ?_ (fun o ho=>by rw[ho.1];simp);refine aj.jP (I:=fun k fr H=>∃ s base bits,s+k<=900/\bits+k<=41/\base<=n+100000/\fr=eu n s base bits/\H=E/\gOk 4 n k s base bits 0=true/\gF 4 n k s base bits 0=gF 4 n 40 265 11 1 0) ?_ (k:=40) ⟨265,11,1,by omega,by omega,by omega,rfl,rfl,afn h,rfl⟩;rintro k fr H ⟨s,base,bits,hs,yu,hb,rfl,rfl,hok,hR⟩;generalize gF 4 n 40 265 11 1 0=R at *;have h8:∃ code,Try.f57.body.bind (ay [1,1,1,1,1,0,0,0,0,0])=some code/\Run X (evT X) 57 m code (eu n s base bits) H ⟨.normal,eu n s base bits++[(15,.int .i64 (0:Nat))],H⟩:=by refine⟨_,rfl,?_⟩;simp only[eu];apply Pe;simp[-getElem?_pos,go_sem]
 obtain⟨ada,hcB,⟨ex,fr,H2⟩,hq,hrB⟩:=aju (m:=m) (E:=H) (by omega) hs yu hb hok hR;rcases hq with⟨h3,h4,s',base',f',k1,k2,k3,k4,k5,k6,k7⟩|⟨h3,h4,h5⟩
 .simp only at h3 h4 k5;subst h3 h4;have g0:aB fr 0=.int .i64 (n:Nat):=by simpa[dF,eu,aB]using congrArg (fun f=>aB f 0) k5
  have g2:aB fr 2=.int .i64 (s':Nat):=by simpa[dF,eu,aB]using congrArg (fun f=>aB f 2) k5
  have g3:aB fr 3=.int .i64 (base':Nat):=by simpa[dF,eu,aB]using congrArg (fun f=>aB f 3) k5
  have g4:aB fr 4=.int .i64 (bits:Nat):=by simpa[dF,eu,aB]using congrArg (fun f=>aB f 4) k5
  refine aj.of (o:=⟨.normal,eu n s' base' (bits+1),H2⟩) ?_ (.inl ⟨rfl,f',k1,s',base',bits+1,k2,k3,k4,rfl,rfl,k6,k7⟩);apply Run.seq (fr':=fr) (H':=H2)
  .refine Run.block ?_ (by simp);exact Run.seq (piece h8 _ rfl) ((axN hcB) ▸ hrB)
  .have w1:IntKind.i64.wrap ((bits:Int)+1)=((bits+1:Nat):Int):=by rw[wrap_i64 (by omega) (by omega)];omega
   generalize bits + 1=b1 at *;simp only[eu];apply Pe;simp[-getElem?_pos,go_sem,g0,g2,g3,g4,w1,ak]
 .simp only at h3 h4 h5;subst h3 h4 h5;refine aj.of (o:=⟨.ret,lnR R,H2⟩) ?_ (.inr ⟨by simp,rfl,rfl,rfl⟩);refine Run.bK ?_ (by simp);refine Run.block ?_ (by simp);exact Run.seq (piece h8 _ rfl) ((axN hcB) ▸ hrB)
def VT{n:Nat}{H:AM.Heap}(h:n<=258):evT X 57 [.int .i64 (n:Nat)] H=some (.tup [.int .i64 ((lenOf n).1:Nat),.int .i64 ((lenOf n).2.1:Nat),.int .i64 ((lenOf n).2.2:Nat)],H):=by
 obtain⟨code,hc,⟨out,⟨h1,h2,h3⟩,hr⟩⟩:=Pm (m:=0) (E:=[]) h;have hx:=dX (C:=X) (f:=57) (i:=0) (a:=.int .i64 (n:Nat)) (H:=H) rfl rfl (dR 1);refine dI (Ev1.rU (l:=[.int .i64 ((lenOf n).1:Nat),.int .i64 ((lenOf n).2.1:Nat),.int .i64 ((lenOf n).2.2:Nat)]) (bC X) Try.func57 hc hx rfl (by simp[dA]) rfl rfl rfl ?_);rw[agu];refine⟨out,⟨h1,?_⟩,hr⟩;show aT X out.fr out.H [.tmp 2,.tmp 3,.tmp 4]=_;rw[h2];rfl
def acC{m n s base bits j:Nat}{E:AM.Heap}(hn:n<=100000)(hs:s<=1000)(yu:bits<=40)(hb:base<=n+100000)(hj:j<2) :
 ∃ code,Try.f58.body.bind (ay [1,1,1,1,0,0,0,0,1,0,0,1,1])=some code/\Run X (evT X) 58 m code (eu n s base bits++[(12,.int .i64 (j:Nat)),(13,.bool true)]) E (if n<base+2 ^ bits then⟨.ret,[(2,.int .i64 (s:Nat)),(3,.int .i64 (base:Nat)),(4,.int .i64 (bits:Nat))],E⟩else⟨.normal,eu n (s+1) (base+2 ^ bits) bits++[(12,.int .i64 (j+1:Nat))],E⟩):=by
 refine⟨_,rfl,?_⟩;have h1:2 ^ bits<=2 ^ 40:=ayo (by omega) yu;have hp:=Z9 yu;generalize 2 ^ bits=pw at *;have hb0:¬ (bits:Int)<0:=by omega
 have w1:IntKind.i64.wrap ((base:Int)+((pw:Nat):Int))=((base+pw:Nat):Int):=by rw[wrap_i64 (by omega) (by omega)];omega
 have w2:IntKind.i64.wrap ((s:Int)+1)=((s+1:Nat):Int):=by rw[wrap_i64 (by omega) (by omega)];omega
 have w3:IntKind.i64.wrap ((j:Int)+1)=((j+1:Nat):Int):=by rw[wrap_i64 (by omega) (by omega)];omega
 by_cases h:n<base+pw
 .rw [if_pos h];have hI:(n:Int)<((base+pw:Nat):Int):=by omega
  generalize base + pw=nb at *;refine Run.bK ?_ (by simp);refine Run.block ?_ (by simp);refine Run.bK ?_ (by simp);apply Run.seq (fr':=eu n s base bits++[(12,.int .i64 (j:Nat)),(19,.bool true)]) (H':=E)
  .simp only[eu];apply Pe;simp[-getElem?_pos,go_sem,hp,hb0,w1,hI,h]
  refine Run.cond (d:=true) (by simp[eu,aJ,aB]) ?_;apply Run.seq (fr':=[(2,.int .i64 (s:Nat)),(3,.int .i64 (base:Nat)),(4,.int .i64 (bits:Nat))]) (H':=E)
  .simp only[eu];apply Pe;simp[-getElem?_pos,go_sem,ak]
  .exact ⟨0,rfl⟩
 .rw [if_neg h];have hI:¬ (n:Int)<((base+pw:Nat):Int):=by omega
  generalize base + pw=nb at *;generalize s + 1=s1 at *;generalize j + 1=j1 at *;apply Run.seq (fr':=eu n s1 nb bits++[(12,.int .i64 (j:Nat))]) (H':=E)
  .refine Run.block ?_ (by simp);apply Run.seq (fr':=eu n s base bits++[(12,.int .i64 (j:Nat)),(19,.bool false)]) (H':=E)
   .apply Run.seq (fr':=eu n s base bits++[(12,.int .i64 (j:Nat)),(19,.bool false)]) (H':=E)
    .simp only[eu];apply Pe;simp[-getElem?_pos,go_sem,hp,hb0,w1,hI,h]
    .exact Run.cond (d:=false) (by simp[eu,aJ,aB]) ⟨0,rfl⟩
   .simp only[eu];apply Pe;simp[-getElem?_pos,go_sem,hp,hb0,w1,w2,ak]
  .simp only[eu];apply Pe;simp[-getElem?_pos,go_sem,w3]
def ajv{m n s base bits f:Nat}{R:Nat×Nat×Nat}{E:AM.Heap}(hn:n<=100000)(hs:s+f<=900)(yu:bits+f<=41)(hb:base<=n+100000)(hok:gOk 2 n f s base bits 0=true)(hR:gF 2 n f s base bits 0=R) :
 ∃ code,Try.f58.body.bind (ay [1,1,1,1,0,0,0,0,1])=some code/\aj (fun o=>(o.ex=.normal/\o.H=E/\∃ s' base' f',f'<f/\s'+f'<=900/\bits+1+f'<=41/\base'<=n+100000/\dF [0,2,3,4] o.fr=eu n s' base' bits/\gOk 2 n f' s' base' (bits+1) 0=true/\gF 2 n f' s' base' (bits+1) 0=R)\/(o.ex=.ret/\o.fr=lnR R/\o.H=E)) X (evT X) 58 m code (eu n s base bits++[(12,.int .i64 (0:Nat))]) E:=by
 refine⟨_,rfl,?_⟩;refine aj.mono (aj.AY (P:=fun fr H=>H=E/\∃ s' base' f',f'<f/\s'+f'<=900/\bits+1+f'<=41/\base'<=n+100000/\dF [0,2,3,4] fr=eu n s' base' bits/\gOk 2 n f' s' base' (bits+1) 0=true/\gF 2 n f' s' base' (bits+1) 0=R) (Q:=fun o=>o.ex=.ret/\o.fr=lnR R/\o.H=E) ?_) ?_
 .refine aj.jP (I:=fun k fr H=>∃ s' base' j,k<=f/\s'+k<=900/\base'<=n+100000/\j<=2/\fr=eu n s' base' bits++[(12,.int .i64 (j:Nat))]/\H=E/\gOk 2 n k s' base' bits j=true/\gF 2 n k s' base' bits j=R) ?_ (k:=f) ⟨s,base,0,by omega,hs,hb,by omega,rfl,rfl,hok,hR⟩;rintro k fr H ⟨s',base',j,hk,hsk,hb',hj,rfl,rfl,hok',hR'⟩;cases k with
  | zero=>simp[gOk]at hok'
  | succ k=>
   rw[gOk]at hok';rw[gF]at hR';by_cases hj2:j=2
   .subst hj2;rw[if_pos rfl]at hok' hR';refine aj.of (o:=⟨.exit 2,eu n s' base' bits++[(12,.int .i64 (2:Nat)),(13,.bool false)],H⟩) ?_ (.inr ⟨by simp,.inl ⟨rfl,rfl,s',base',k,by omega,by omega,by omega,hb',by simp[eu,dF,aB],hok',hR'⟩⟩);refine⟨0,?_⟩;simp only[eu];simp[-getElem?_pos,go_sem]
   .rw [if_neg hj2]at hok' hR';have hjl:j<2:=by omega
    have hjI:(j:Int)<2:=by omega
    have hst:=acC (m:=m) (E:=H) (s:=s') (base:=base') (bits:=bits) (j:=j) hn (by omega) (by omega) hb' hjl;by_cases hlt:n<base'+2 ^ bits
    .rw [if_pos hlt]at hok' hR' hst;subst hR';refine aj.of (o:=⟨.ret,lnR (s',base',bits),H⟩) ?_ (.inr ⟨by simp,.inr ⟨rfl,rfl,rfl,rfl⟩⟩);apply Run.seq (fr':=eu n s' base' bits++[(12,.int .i64 (j:Nat)),(13,.bool true)]) (H':=H)
     .simp only[eu];apply Pe;simp[-getElem?_pos,go_sem,hjI,hjl]
     apply Run.seq (fr':=eu n s' base' bits++[(12,.int .i64 (j:Nat)),(13,.bool true)]) (H':=H)
     .exact Run.cond (d:=true) (by simp[eu,aJ,aB]) ⟨0,rfl⟩
     exact piece hst _ rfl
    .rw [if_neg hlt]at hok' hR' hst;refine aj.of (o:=⟨.normal,eu n (s'+1) (base'+2 ^ bits) bits++[(12,.int .i64 (j+1:Nat))],H⟩) ?_ (.inl ⟨rfl,k,by omega,s'+1,base'+2 ^ bits,j+1,by omega,by omega,by omega,by omega,rfl,rfl,hok',hR'⟩);apply Run.seq (fr':=eu n s' base' bits++[(12,.int .i64 (j:Nat)),(13,.bool true)]) (H':=H)
     .simp only[eu];apply Pe;simp[-getElem?_pos,go_sem,hjI,hjl]
     apply Run.seq (fr':=eu n s' base' bits++[(12,.int .i64 (j:Nat)),(13,.bool true)]) (H':=H)
     .exact Run.cond (d:=true) (by simp[eu,aJ,aB]) ⟨0,rfl⟩
     exact piece hst _ rfl
 .rintro o (⟨h1,h2⟩|⟨h1,h2⟩)
  .exact .inl ⟨h1,h2⟩
  .exact .inr h2
def fG(n:Nat):Nat×Nat×Nat:=if n<=4 then(n-1,n,0)else gF 2 n 40 4 5 1 0
def Kw{n:Nat}(h:n<=32768):gOk 2 n 40 4 5 1 0=true:=Cc h _ _ _ _ _ (by decide +kernel)
def IV{m n:Nat}{E:AM.Heap}(h0:1<=n)(h:n<=32768):∃ code,Try.f58.body=some code/\aj (fun o=>o.ex=.ret/\o.fr=lnR (fG n)/\o.H=E) X (evT X) 58 m code [(0,.int .i64 (n:Nat))] E:=by
 refine⟨_,rfl,?_⟩;unfold fG;apply aj.seq (fr':=[(0,.int .i64 (n:Nat))]) (H':=E)
 .apply Pe;simp[-getElem?_pos,go_sem,ak]
 by_cases h2:n<=4
 .rw [if_pos h2];have h2I:(n:Int)<=4:=by omega
  have w1:IntKind.i64.wrap ((n:Int)-1)=((n-1:Nat):Int):=by rw[wrap_i64 (by omega) (by omega)];omega
  refine aj.of (o:=⟨.ret,lnR (n-1,n,0),E⟩) ?_ ⟨rfl,rfl,rfl⟩;refine⟨0,?_⟩;simp only[lnR];generalize n-1=s at *;simp[-getElem?_pos,go_sem,h2,h2I,w1,ak]
 rw[if_neg h2];have h2I:¬ (n:Int)<=4:=by omega
 apply aj.assoc;apply aj.seq (fr':=[(0,.int .i64 (n:Nat)),(6,.bool false)]) (H':=E)
 .apply Pe;simp[-getElem?_pos,go_sem,h2,h2I]
 apply aj.seq (fr':=[(0,.int .i64 (n:Nat)),(6,.bool false)]) (H':=E)
 .exact Run.cond (d:=false) (by simp[aJ,aB]) ⟨0,rfl⟩
 apply aj.seq (fr':=[(0,.int .i64 (n:Nat)),(2,.int .i64 4),(3,.int .i64 5)]) (H':=E)
 .apply Pe;simp[-getElem?_pos,go_sem,ak]
 apply aj.seq (fr':=eu n 4 5 1) (H':=E)
 .simp only[eu];apply Pe;simp[-getElem?_pos,go_sem,ak]
 refine aj.blk ?_ (fun o ho=>by rw[ho.1];simp);refine aj.jP (I:=fun k fr H=>∃ s base bits,s+k<=900/\bits+k<=41/\base<=n+100000/\fr=eu n s base bits/\H=E/\gOk 2 n k s base bits 0=true/\gF 2 n k s base bits 0=gF 2 n 40 4 5 1 0) ?_ (k:=40) ⟨4,5,1,by omega,by omega,by omega,rfl,rfl,Kw h,rfl⟩;rintro k fr H ⟨s,base,bits,hs,yu,hb,rfl,rfl,hok,hR⟩;generalize gF 2 n 40 4 5 1 0=R at *;have h8:∃ code,Try.f58.body.bind (ay [1,1,1,1,0,0,0,0,0])=some code/\Run X (evT X) 58 m code (eu n s base bits) H ⟨.normal,eu n s base bits++[(12,.int .i64 (0:Nat))],H⟩:=by refine⟨_,rfl,?_⟩;simp only[eu];apply Pe;simp[-getElem?_pos,go_sem]
 obtain⟨ada,hcB,⟨ex,fr,H2⟩,hq,hrB⟩:=ajv (m:=m) (E:=H) (by omega) hs yu hb hok hR;rcases hq with⟨h3,h4,s',base',f',k1,k2,k3,k4,k5,k6,k7⟩|⟨h3,h4,h5⟩
 .simp only at h3 h4 k5;subst h3 h4;have g0:aB fr 0=.int .i64 (n:Nat):=by simpa[dF,eu,aB]using congrArg (fun f=>aB f 0) k5
  have g2:aB fr 2=.int .i64 (s':Nat):=by simpa[dF,eu,aB]using congrArg (fun f=>aB f 2) k5
  have g3:aB fr 3=.int .i64 (base':Nat):=by simpa[dF,eu,aB]using congrArg (fun f=>aB f 3) k5
  have g4:aB fr 4=.int .i64 (bits:Nat):=by simpa[dF,eu,aB]using congrArg (fun f=>aB f 4) k5
  refine aj.of (o:=⟨.normal,eu n s' base' (bits+1),H2⟩) ?_ (.inl ⟨rfl,f',k1,s',base',bits+1,k2,k3,k4,rfl,rfl,k6,k7⟩);apply Run.seq (fr':=fr) (H':=H2)
  .refine Run.block ?_ (by simp);exact Run.seq (piece h8 _ rfl) ((axN hcB) ▸ hrB)
  .have w1:IntKind.i64.wrap ((bits:Int)+1)=((bits+1:Nat):Int):=by rw[wrap_i64 (by omega) (by omega)];omega
   generalize bits + 1=b1 at *;simp only[eu];apply Pe;simp[-getElem?_pos,go_sem,g0,g2,g3,g4,w1,ak]
 .simp only at h3 h4 h5;subst h3 h4 h5;refine aj.of (o:=⟨.ret,lnR R,H2⟩) ?_ (.inr ⟨by simp,rfl,rfl,rfl⟩);refine Run.bK ?_ (by simp);refine Run.block ?_ (by simp);exact Run.seq (piece h8 _ rfl) ((axN hcB) ▸ hrB)
def Pn{n:Nat}{H:AM.Heap}(h0:1<=n)(h:n<=32768):evT X 58 [.int .i64 (n:Nat)] H=some (.tup [.int .i64 ((fG n).1:Nat),.int .i64 ((fG n).2.1:Nat),.int .i64 ((fG n).2.2:Nat)],H):=by
 obtain⟨code,hc,⟨out,⟨h1,h2,h3⟩,hr⟩⟩:=IV (m:=0) (E:=[]) h0 h;have hx:=dX (C:=X) (f:=58) (i:=0) (a:=.int .i64 (n:Nat)) (H:=H) rfl rfl (dR 1);refine dI (Ev1.rU (l:=[.int .i64 ((fG n).1:Nat),.int .i64 ((fG n).2.1:Nat),.int .i64 ((fG n).2.2:Nat)]) (bC X) Try.func58 hc hx rfl (by simp[dA]) rfl rfl rfl ?_);rw[agv];refine⟨out,⟨h1,?_⟩,hr⟩;show aT X out.fr out.H [.tmp 2,.tmp 3,.tmp 4]=_;rw[h2];rfl
def flL:List Int:=List.replicate 144 8++List.replicate 112 9++List.replicate 24 7++List.replicate 8 8
def flD:List Int:=List.replicate 32 5
def flO(l:List Int):AM.Obj:=⟨.pi .i64 l,0,.none,1,true,false,0⟩
def aac:Row1:=⟨53,[],.tup [.sl 0 0 288 0,.sl 1 0 32 0],[some (flO flL),some (flO flD)]⟩
def aad:lJ X (aac::[]):=lJ.cons (Gh lJ.nil) lJ.nil (n:=400) (by kernel_rfl)
def ars(H:AM.Heap):evT X 53 [] H=some (.tup [.sl H.length 0 288 0,.sl (H.length+1) 0 32 0],H++[some (flO flL),some (flO flD)]):=by
 have:=dI (Ev1.frame (aad aac (ayb.2 rfl)).1 rfl H);simpa[aac,dL,lI,ren,aQ,xu,flO,bU,azH]using this
def SE{H:AM.Heap}{a:AV}{l:List Int}(h:fJ H a=some (.pi .i64 l))(he:(kE l).2=0):evT X 54 [a] H=some (.tup [.sl H.length 0 l.length 0,.int .i64 0],H++[mF l.length (pW l)]):=by
 obtain⟨c,x,hx⟩:=iy (C:=X) (f:=54) (i:=0) rfl h (dR 1);obtain⟨code,hb,hr⟩:=Rt c l he;have:=Ev1.fresh (H:=H) (args:=[a]) (l:=[.sl 3 0 l.length 0,.int .i64 0]) (o:=3) (g:=0) Ho Try.func54 hb hx rfl (by simp[dA]) hr (.inr rfl) rfl rfl rfl rfl rfl rfl rfl;have:=dI this;simpa[aG,dB,ren,bU,mF,AM.fresh]using this
def lcL:List Int:=pW flL
def dcL:List Int:=pW flD
def adx:(kE flL).2=0:=by kernel_rfl
def ady:(kE flD).2=0:=by kernel_rfl
def tX:flL.length=288:=by decide +kernel
def Fa:flD.length=32:=by decide +kernel
def wG(l:List Int):(pW l).length=l.length:=Ah _ l
def wY:∀ n,n<259->3<=n->(lenOf n).1<=285/\257<=(lenOf n).1/\(lenOf n).2.1<=n/\n<(lenOf n).2.1+2 ^ (lenOf n).2.2/\(lenOf n).2.2<=5:=by decide +kernel
def Io{per n:Nat}:∀ {f s base bits j:Nat},gOk per n f s base bits j=true->base<=n->base<=(gF per n f s base bits j).2.1/\(gF per n f s base bits j).2.1<=n/\n<(gF per n f s base bits j).2.1+2 ^ (gF per n f s base bits j).2.2
 | 0,_,_,_,_,h,_=>by cases h
 | f+1,s,base,bits,j,h,hb=>by
  unfold gOk at h;unfold gF;split
  .rename_i hj;rw[if_pos hj]at h;exact Io h hb
  .rename_i hj;rw[if_neg hj]at h;split
   .rename_i hn;exact⟨axO _,hb,hn⟩
   .rename_i hn;rw[if_neg hn]at h;have:=Io h (by omega);exact⟨ayO (Nat.le_add_right _ _) this.1,this.2⟩
def Aw{n:Nat}:∀ {f bits j:Nat},j<=2->gOk 2 n f (2*bits+2+j) ((2+j)*2 ^ bits+1) bits j=true->∃ b j',j'<2/\gF 2 n f (2*bits+2+j) ((2+j)*2 ^ bits+1) bits j=(2*b+2+j',(2+j')*2 ^ b+1,b)
 | 0,_,_,_,h=>by cases h
 | f+1,bits,j,hj,h=>by
  unfold gOk at h;unfold gF;by_cases h2:j=2
  .subst h2;rw[if_pos rfl]at h ⊢;have e1:2*bits+2+2=2*(bits+1)+2+0:=by omega
   have e2:(2+2)*2 ^ bits+1=(2+0)*2 ^ (bits+1)+1:=by rw[aAb];omega
   rw[e1,e2]at h ⊢;exact Aw (by omega) h
  .rw [if_neg h2]at h ⊢;split
   .exact ⟨bits,j,by omega,rfl⟩
   .rename_i hn;rw[if_neg hn]at h;have e1:2*bits+2+j+1=2*bits+2+(j+1):=by omega
    have e2:(2+j)*2 ^ bits+1+2 ^ bits=(2+(j+1))*2 ^ bits+1:=by rw[show 2+(j+1)=(2+j)+1 by omega,azs];omega
    rw[e1,e2]at h ⊢;exact Aw (by omega) h
def wZ{n:Nat}(h1:1<=n)(h:n<=32768):(fG n).1<=29/\(fG n).2.1<=n/\n<(fG n).2.1+2 ^ (fG n).2.2/\(fG n).2.2<=13:=by
 unfold fG;by_cases h4:n<=4
 .rw [if_pos h4];simp;omega
 .rw [if_neg h4];obtain⟨_,a2,a3⟩:=Io (Kw h) (by omega);obtain⟨b,j,hj,he⟩:=Aw (n:=n) (f:=40) (bits:=1) (j:=0) (by omega) (Kw h);have he':gF 2 n 40 4 5 1 0=(2*b+2+j,(2+j)*2 ^ b+1,b):=he;rw[he']at a2 a3 ⊢;simp only at a2 a3 ⊢;have hb:b<=13:=by refine Classical.byContradiction fun hc=>?_;have hp:2 ^ 14<=2 ^ b:=ayo (by omega) (by omega);have:2*2 ^ b<=(2+j)*2 ^ b:=ayi _ (by omega);omega
  exact⟨by omega,a2,a3,hb⟩
def DZ:∀ y,y<288->0<=flL.getD y 0/\flL.getD y 0<=9:=by decide +kernel
def RF:∀ y,y<32->0<=flD.getD y 0/\flD.getD y 0<=9:=by decide +kernel
def uq{l:List Int}{y:Nat}(h:y<l.length):l[y]?=some (l.getD y 0):=by
 rw[axQ,axI h];rfl
def jZ(s:Ws)(cs ls:List Int)(y:Nat):Ws:=tN s (cs.getD y 0) (ls.getD y 0).toNat
def pxW(s:Ws)(x:Px):Ws :=
 if x.len=0 then jZ s lcL flL x.byte.toNat else
  dG (jZ (dG (jZ s lcL flL (lenOf x.len.toNat).1) (x.len-((lenOf x.len.toNat).2.1:Nat)) (lenOf x.len.toNat).2.2) dcL flD (fG x.dist.toNat).1) (x.dist-((fG x.dist.toNat).2.1:Nat)) (fG x.dist.toNat).2.2
def Ce(l:List Px):Ws:=jZ (l.foldl pxW (dG (dG ⟨0,[]⟩ 1 1) 1 2)) lcL flL 256
def nN(l:List Px):List UInt8×Int:=if(kQ l []).2≠0 then([],(kQ l []).2)else((Ce l).o,0)
structure FxV (E:AM.Heap) (o6 o7 o8 o10 o12:Nat) (oa:Option Nat) (s:Ws):Prop where
 r6:E[o6]?=some (some (flO flL))
 r7:E[o7]?=some (some (flO flD))
 r8:E[o8]?=some (mF 288 lcL)
 r10:E[o10]?=some (mF 32 dcL)
 wr:WrV 0 E o12 oa s
 lt:o6<o12/\o7<o12/\o8<o12/\o10<o12
 oa:∀ a,oa=some a->o12<a
 ok:jK s
section
variable {E:AM.Heap}{o6 o7 o8 o10 o12:Nat}{oa:Option Nat}{s:Ws}
def WrV.lt'(h:WrV 0 E o12 oa s):o12<E.length:=h.lt.1
def FxV.step{E':AM.Heap}{oa':Option Nat}{s':Ws}(h:FxV E o6 o7 o8 o10 o12 oa s)(hw:WrV 0 E' o12 oa' s')(hk:Kpw E E' o12 oa oa')(hok:jK s'):FxV E' o6 o7 o8 o10 o12 oa' s':=by
 obtain⟨l6,l7,l8,l10⟩:=h.lt;have hl:=h.wr.lt';have keep:∀ j,j<o12->E'[j]?=E[j]?:=fun j hj=>hk.rest j (by omega) (by omega) fun a ha=>by have:=h.oa a ha;omega
 refine⟨by rw[keep _ l6];exact h.r6,by rw[keep _ l7];exact h.r7,by rw[keep _ l8];exact h.r8,by rw[keep _ l10];exact h.r10,hw,h.lt,?_,hok⟩;intro a ha;cases hq:oa with
 | none=>have:=hk.new a hq ha;omega
 | some z=>
  have:=hk.same z hq;rw[ha]at this;cases this;exact h.oa _ hq
def FxV.cat(r:AM.Heap)(h:FxV E o6 o7 o8 o10 o12 oa s):FxV (E++r) o6 o7 o8 o10 o12 oa s:=by
 obtain⟨l6,l7,l8,l10⟩:=h.lt;have hl:=h.wr.lt';have keep:∀ j,j<o12->(E++r)[j]?=E[j]?:=fun j hj=>axL (by omega);exact⟨by rw[keep _ l6];exact h.r6,by rw[keep _ l7];exact h.r7,by rw[keep _ l8];exact h.r8,by rw[keep _ l10];exact h.r10,h.wr.cat,h.lt,h.oa,h.ok⟩
def pq(o6 o7 o8 o10 o12 c:Nat)(l:List Px)(i:Nat):AM.Frame:=[(6,.sl o6 0 288 0),(7,.sl o7 0 32 0),(8,.sl o8 0 288 0),(10,.sl o10 0 32 0),(12,.ptr o12 0 0 0),(46,.ro c (.pr 3 (l.map pxR)) 1),(47,.int .i64 (l.length:Nat)),(48,.int .i64 (i:Nat))]
def yZ(o6 o7 o8 o10 o12 q c:Nat)(l:List Px)(i:Nat):AM.Frame:=[(6,.sl o6 0 288 0),(7,.sl o7 0 32 0),(8,.sl o8 0 288 0),(10,.sl o10 0 32 0),(12,.ptr o12 0 0 0),(14,.ptr q 0 0 0),(46,.ro c (.pr 3 (l.map pxR)) 1),(47,.int .i64 (l.length:Nat)),(48,.int .i64 (i:Nat))]
def lg{cs ls:List Int}{y:Nat}(h:jK s):jK (jZ s cs ls y)/\(jZ s cs ls y).k=s.k+(ls.getD y 0).toNat:=FI _ h
def afo{m i q c:Nat}{x:Px}{l:List Px}{tl:AM.Frame}(h:FxV E o6 o7 o8 o10 o12 oa s)(hl:s.k<=7000000)(hq:E[q]?=some (some (pxO x))):∃ E' oa',FxV E' o6 o7 o8 o10 o12 oa' (jZ s lcL flL x.byte.toNat)/\Kpw E E' o12 oa oa'/\∃ code,Try.f42.body.bind (ay [1,1,1,1,1,1,1,1,0,1,0,0,1,1,0,0,1,0,1,0,0])=some code/\Run X (evT X) 42 m code (yZ o6 o7 o8 o10 o12 q c l i++tl) E ⟨.normal,pq o6 o7 o8 o10 o12 c l i,E'⟩:=by
 have hy:=x.byte.toNat_lt;have hy2:x.byte.toNat<288:=by omega
 obtain⟨n0,n9⟩:=DZ _ hy2;have hc:=uq (l:=lcL) (y:=x.byte.toNat) (by unfold lcL;rw[wG,tX];exact hy2);have hf:=uq (l:=flL) (y:=x.byte.toNat) (by rw[tX];exact hy2);obtain⟨E',oa',g1,g2,g3⟩:=Am (x:=lcL.getD x.byte.toNat 0) (I:=flL.getD x.byte.toNat 0) (n:=(flL.getD x.byte.toNat 0).toNat) (by omega) h.wr h.ok (by omega) (by omega);have hs:=lg (cs:=lcL) (ls:=flL) (y:=x.byte.toNat) h.ok;refine⟨E',oa',h.step g2 g3 hs.1,g3,_,rfl,?_⟩;have q6:=h.r6;have q8:=h.r8;have hyI:(x.byte.toNat:Int)<288:=by omega
 simp only[flO,mF,pxO,pxR]at q6 q8 hq;simp only[yZ,pq];generalize lcL.getD x.byte.toNat 0=v1 at *;generalize flL.getD x.byte.toNat 0=v2 at *;generalize l.map pxR=R at *;generalize l.length=N at *;generalize lcL=LC at *;generalize flL=LL at *;apply Pe;simp[-getElem?_pos,go_sem,retag,q6,q8,hq,hyI,hy2,hc,hf,g1]
end
def Po(o6 o7 o8 o10 o12 q u v w c:Nat)(l:List Px)(i:Nat):AM.Frame:=[(6,.sl o6 0 288 0),(7,.sl o7 0 32 0),(8,.sl o8 0 288 0),(10,.sl o10 0 32 0),(12,.ptr o12 0 0 0),(14,.ptr q 0 0 0),(15,.int .i64 (u:Nat)),(16,.int .i64 (v:Nat)),(17,.int .i64 (w:Nat)),(46,.ro c (.pr 3 (l.map pxR)) 1),(47,.int .i64 (l.length:Nat)),(48,.int .i64 (i:Nat))]
def Pq(o6 o7 o8 o10 o12 q v w c:Nat)(l:List Px)(i:Nat):AM.Frame:=[(6,.sl o6 0 288 0),(7,.sl o7 0 32 0),(8,.sl o8 0 288 0),(10,.sl o10 0 32 0),(12,.ptr o12 0 0 0),(14,.ptr q 0 0 0),(16,.int .i64 (v:Nat)),(17,.int .i64 (w:Nat)),(46,.ro c (.pr 3 (l.map pxR)) 1),(47,.int .i64 (l.length:Nat)),(48,.int .i64 (i:Nat))]
section
variable {E:AM.Heap}{o6 o7 o8 o10 o12:Nat}{oa:Option Nat}{s:Ws}
def afp{m i q c n:Nat}{x:Px}{l:List Px}{tl:AM.Frame}(hn:x.len=(n:Nat))(PZ:n<=258)(hq:E[q]?=some (some (pxO x))):∃ code,Try.f42.body.bind (ay [1,1,1,1,1,1,1,1,0,1,0,0,1,1,0,0,1,1,0])=some code/\Run X (evT X) 42 m code (yZ o6 o7 o8 o10 o12 q c l i++tl) E ⟨.normal,Po o6 o7 o8 o10 o12 q (lenOf n).1 (lenOf n).2.1 (lenOf n).2.2 c l i,E⟩:=by
 refine⟨_,rfl,?_⟩;have hL:=VT (H:=E) PZ;simp only[pxO,pxR,hn]at hq;simp only[yZ,Po];generalize lenOf n=R3 at *;generalize l.map pxR=R at *;generalize l.length=N at *;apply Pe;simp[-getElem?_pos,go_sem,hq,hL,ak]
def afq{m i q c n:Nat}{x:Px}{l:List Px}(hn:x.dist=(n:Nat))(h1:1<=n)(h2:n<=32768)(hq:E[q]?=some (some (pxO x))):∃ code,Try.f42.body.bind (ay [1,1,1,1,1,1,1,1,0,1,0,0,1,1,0,0,1,1,1,1,1,0])=some code/\Run X (evT X) 42 m code (yZ o6 o7 o8 o10 o12 q c l i) E ⟨.normal,Po o6 o7 o8 o10 o12 q (fG n).1 (fG n).2.1 (fG n).2.2 c l i,E⟩:=by
 refine⟨_,rfl,?_⟩;have hL:=Pn (H:=E) h1 h2;simp only[pxO,pxR,hn]at hq;simp only[yZ,Po];generalize fG n=R3 at *;generalize l.map pxR=R at *;generalize l.length=N at *;apply Pe;simp[-getElem?_pos,go_sem,hq,hL,ak]
def afr{m i q u v w c:Nat}{l:List Px}(h:FxV E o6 o7 o8 o10 o12 oa s)(hl:s.k<=7000000)(hu:u<288):∃ E' oa',FxV E' o6 o7 o8 o10 o12 oa' (jZ s lcL flL u)/\Kpw E E' o12 oa oa'/\∃ code,Try.f42.body.bind (ay [1,1,1,1,1,1,1,1,0,1,0,0,1,1,0,0,1,1,1,0])=some code/\Run X (evT X) 42 m code (Po o6 o7 o8 o10 o12 q u v w c l i) E ⟨.normal,Pq o6 o7 o8 o10 o12 q v w c l i,E'⟩:=by
 obtain⟨n0,n9⟩:=DZ _ hu;have hc:=uq (l:=lcL) (y:=u) (by unfold lcL;rw[wG,tX];exact hu);have hf:=uq (l:=flL) (y:=u) (by rw[tX];exact hu);obtain⟨E',oa',g1,g2,g3⟩:=Am (x:=lcL.getD u 0) (I:=flL.getD u 0) (n:=(flL.getD u 0).toNat) (by omega) h.wr h.ok (by omega) (by omega);have hs:=lg (cs:=lcL) (ls:=flL) (y:=u) h.ok;refine⟨E',oa',h.step g2 g3 hs.1,g3,_,rfl,?_⟩;have q6:=h.r6;have q8:=h.r8;have huI:(u:Int)<288:=by omega
 simp only[flO,mF]at q6 q8;simp only[Po,Pq];generalize lcL.getD u 0=v1 at *;generalize flL.getD u 0=v2 at *;generalize l.map pxR=R at *;generalize l.length=N at *;generalize lcL=LC at *;generalize flL=LL at *;apply Pe;simp[-getElem?_pos,go_sem,retag,q6,q8,huI,hu,hc,hf,g1]
def afs{m i q u v w c:Nat}{l:List Px}(h:FxV E o6 o7 o8 o10 o12 oa s)(hl:s.k<=7000000)(hu:u<32):∃ E' oa',FxV E' o6 o7 o8 o10 o12 oa' (jZ s dcL flD u)/\Kpw E E' o12 oa oa'/\∃ code,Try.f42.body.bind (ay [1,1,1,1,1,1,1,1,0,1,0,0,1,1,0,0,1,1,1,1,1,1,0])=some code/\Run X (evT X) 42 m code (Po o6 o7 o8 o10 o12 q u v w c l i) E ⟨.normal,Pq o6 o7 o8 o10 o12 q v w c l i,E'⟩:=by
 obtain⟨n0,n9⟩:=RF _ hu;have hc:=uq (l:=dcL) (y:=u) (by unfold dcL;rw[wG,Fa];exact hu);have hf:=uq (l:=flD) (y:=u) (by rw[Fa];exact hu);obtain⟨E',oa',g1,g2,g3⟩:=Am (x:=dcL.getD u 0) (I:=flD.getD u 0) (n:=(flD.getD u 0).toNat) (by omega) h.wr h.ok (by omega) (by omega);have hs:=lg (cs:=dcL) (ls:=flD) (y:=u) h.ok;refine⟨E',oa',h.step g2 g3 hs.1,g3,_,rfl,?_⟩;have q6:=h.r7;have q8:=h.r10;have huI:(u:Int)<32:=by omega
 simp only[flO,mF]at q6 q8;simp only[Po,Pq];generalize dcL.getD u 0=v1 at *;generalize flD.getD u 0=v2 at *;generalize l.map pxR=R at *;generalize l.length=N at *;generalize dcL=LC at *;generalize flD=LL at *;apply Pe;simp[-getElem?_pos,go_sem,retag,q6,q8,huI,hu,hc,hf,g1]
def aft{m i q v w c n:Nat}{x:Px}{l:List Px}(h:FxV E o6 o7 o8 o10 o12 oa s)(hl:s.k<=7000000)(hn:x.len=(n:Nat))(hn2:n<=100000)(hv:v<=n)(hw:w<=60)(hq:E[q]?=some (some (pxO x))):∃ E' oa',FxV E' o6 o7 o8 o10 o12 oa' (dG s (x.len-(v:Nat)) w)/\Kpw E E' o12 oa oa'/\∃ code,Try.f42.body.bind (ay [1,1,1,1,1,1,1,1,0,1,0,0,1,1,0,0,1,1,1,1,0])=some code/\Run X (evT X) 42 m code (Pq o6 o7 o8 o10 o12 q v w c l i) E ⟨.normal,yZ o6 o7 o8 o10 o12 q c l i,E'⟩:=by
 obtain⟨E',oa',g1,g2,g3⟩:=oV (x:=x.len-(v:Nat)) (I:=(w:Nat)) (n:=w) rfl h.wr h.ok (by omega) hw;refine⟨E',oa',h.step g2 g3 (eU h.ok w).1,g3,_,rfl,?_⟩;rw[hn]at g1;have w1:IntKind.i64.wrap ((n:Int)-(v:Int))=(n:Int)-(v:Int):=by rw[wrap_i64 (by omega) (by omega)]
 simp only[pxO,pxR,hn]at hq;simp only[Pq,yZ];generalize l.map pxR=R at *;generalize l.length=N at *;apply Pe;simp[-getElem?_pos,go_sem,hq,w1,g1]
def afu{m i q v w c n:Nat}{x:Px}{l:List Px}(h:FxV E o6 o7 o8 o10 o12 oa s)(hl:s.k<=7000000)(hn:x.dist=(n:Nat))(hn2:n<=100000)(hv:v<=n)(hw:w<=60)(hq:E[q]?=some (some (pxO x))):∃ E' oa',FxV E' o6 o7 o8 o10 o12 oa' (dG s (x.dist-(v:Nat)) w)/\Kpw E E' o12 oa oa'/\∃ code,Try.f42.body.bind (ay [1,1,1,1,1,1,1,1,0,1,0,0,1,1,0,0,1,1,1,1,1,1,1])=some code/\Run X (evT X) 42 m code (Pq o6 o7 o8 o10 o12 q v w c l i) E ⟨.normal,pq o6 o7 o8 o10 o12 c l i,E'⟩:=by
 obtain⟨E',oa',g1,g2,g3⟩:=oV (x:=x.dist-(v:Nat)) (I:=(w:Nat)) (n:=w) rfl h.wr h.ok (by omega) hw;refine⟨E',oa',h.step g2 g3 (eU h.ok w).1,g3,_,rfl,?_⟩;rw[hn]at g1;have w1:IntKind.i64.wrap ((n:Int)-(v:Int))=(n:Int)-(v:Int):=by rw[wrap_i64 (by omega) (by omega)]
 simp only[pxO,pxR,hn]at hq;simp only[Pq,pq];generalize l.map pxR=R at *;generalize l.length=N at *;apply Pe;simp[-getElem?_pos,go_sem,hq,w1,g1]
end
def Pv{x:Px}(h:oK x=true)(h0:¬ x.len=0):x.dist<=32768:=by
 unfold oK at h;rw[if_neg h0]at h;simp at h;omega
def PU{s:Ws}{x:Px}(h:jK s)(hm:oK x=true):jK (pxW s x)/\(pxW s x).k<=s.k+40:=by
 unfold pxW;by_cases h0:x.len=0
 .rw [if_pos h0];obtain⟨h1,h2⟩:=lg (cs:=lcL) (ls:=flL) (y:=x.byte.toNat) h;have:=DZ x.byte.toNat (by have:=x.byte.toNat_lt;omega);exact⟨h1,by omega⟩
 .rw [if_neg h0];obtain⟨n,d,hn,hd,n3,n258,d1⟩:=L9 hm h0;have hd2:=Pv hm h0;rw[hn,hd]at *;simp only[ayA]at *;obtain⟨a1,a2,a3,a4,a5⟩:=wY n (by omega) n3;obtain⟨b1,b2,b3,b4⟩:=wZ d1 (by omega);obtain⟨h1,h2⟩:=lg (cs:=lcL) (ls:=flL) (y:=(lenOf n).1) h;obtain⟨h3,h4⟩:=eU (x:=(n:Int)-((lenOf n).2.1:Nat)) h1 (lenOf n).2.2;obtain⟨h5,h6⟩:=lg (cs:=dcL) (ls:=flD) (y:=(fG d).1) h3;obtain⟨h7,h8⟩:=eU (x:=(d:Int)-((fG d).2.1:Nat)) h5 (fG d).2.2;have:=DZ (lenOf n).1 (by omega);have:=RF (fG d).1 (by omega);exact⟨h7,by omega⟩
section
variable {E:AM.Heap}{o6 o7 o8 o10 o12:Nat}{oa:Option Nat}{s:Ws}
def acD{m i c:Nat}{x:Px}{l:List Px}(h:FxV E o6 o7 o8 o10 o12 oa s)(hl:s.k<=6000000)(hx:l[i]?=some x)(hll:l.length<=100000)(hm:oK x=true):∃ E' oa',FxV E' o6 o7 o8 o10 o12 oa' (pxW s x)/\∃ code,Try.f42.body.bind (ay [1,1,1,1,1,1,1,1,0,1,0,0,1,1])=some code/\Run X (evT X) 42 m code (pq o6 o7 o8 o10 o12 c l i++[(49,.bool true)]) E ⟨.normal,pq o6 o7 o8 o10 o12 c l (i+1),E'⟩:=by
 have hx':(l.map pxR)[i]?=some (pxR x):=by rw[axP,hx];rfl
 have hi:=eX hx;have hiI:(i:Int)<(l.length:Int):=by omega
 have hlm:(l.map pxR).length=l.length:=by simp
 have UE:∃ code,Try.f42.body.bind (ay [1,1,1,1,1,1,1,1,0,1,0,0,1,1,0,0,0])=some code/\Run X (evT X) 42 m code (pq o6 o7 o8 o10 o12 c l i++[(49,.bool true)]) E ⟨.normal,yZ o6 o7 o8 o10 o12 E.length c l i,E++[some (pxO x)]⟩:=by refine⟨_,rfl,?_⟩;simp only[pq,yZ,pxO,pxR]at hx' ⊢;generalize l.map pxR=R at *;generalize l.length=N at *;apply Pe;simp[-getElem?_pos,go_sem,hx',hi,hiI,hlm,afl,nZ,retag,CO,yB,splice,jD,scalars,scalar]
 have hF0:=h.cat [some (pxO x)];have hq0:(E++[some (pxO x)])[E.length]?=some (some (pxO x)):=by simp
 have hlt:=h.wr.lt;generalize E++[some (pxO x)]=E0 at *;have hqn:E.length≠o12/\∀ a,oa=some a->E.length≠a:=⟨by omega,fun a ha=>by have:=hlt.2 a ha;omega⟩;generalize E.length=q at *;have acE:∃ code,Try.f42.body.bind (ay [1,1,1,1,1,1,1,1,0,1,0,0,1,1,0,0,1,0,0])=some code/\Run X (evT X) 42 m code (yZ o6 o7 o8 o10 o12 q c l i) E0 ⟨.normal,yZ o6 o7 o8 o10 o12 q c l i++[(54,.bool (decide (x.len=0)))],E0⟩:=by
  refine⟨_,rfl,?_⟩;simp only[yZ,pxO,pxR]at hq0 ⊢;generalize l.map pxR=R at *;generalize l.length=N at *;by_cases h0:x.len=0
  .rw [decide_eq_true h0];rw[h0]at hq0;apply Pe;simp[-getElem?_pos,go_sem,hq0]
  .have h0b:(x.len==0)=false:=by simpa using h0
   rw[decide_eq_false h0];apply Pe;simp[-getElem?_pos,go_sem,hq0,h0,h0b]
 have w1:IntKind.i64.wrap ((i:Int)+1)=((i+1:Nat):Int):=by rw[wrap_i64 (by omega) (by omega)];omega
 have ajw:∀ E',∃ code,Try.f42.body.bind (ay [1,1,1,1,1,1,1,1,0,1,0,0,1,1,1])=some code/\Run X (evT X) 42 m code (pq o6 o7 o8 o10 o12 c l i) E' ⟨.normal,pq o6 o7 o8 o10 o12 c l (i+1),E'⟩:=by intro E';refine⟨_,rfl,?_⟩;simp only[pq];generalize l.map pxR=R at *;generalize l.length=N at *;generalize i + 1=i1 at *;apply Pe;simp[-getElem?_pos,go_sem,w1]
 unfold pxW;by_cases h0:x.len=0
 .rw [if_pos h0];rw[decide_eq_true h0]at acE;obtain⟨E1,oa1,g1,g2,g3⟩:=afo (m:=m) (i:=i) (c:=c) (l:=l) (tl:=[(54,.bool true)]) hF0 (by omega) hq0;refine⟨E1,oa1,g1,_,rfl,?_⟩;apply Run.seq (fr':=pq o6 o7 o8 o10 o12 c l i) (H':=E1)
  .refine Run.iM ?_;apply Run.seq (piece UE _ rfl);refine Run.bK ?_ (by simp);apply Run.seq (piece acE _ rfl);refine Run.cond (d:=true) (by simp[yZ,aJ,aB]) ?_;exact Run.seq (piece g3 _ rfl) ⟨0,rfl⟩
  .exact piece (ajw E1) _ rfl
 .rw [if_neg h0];rw[decide_eq_false h0]at acE;obtain⟨n,d,hn,hd,n3,n258,d1⟩:=L9 hm h0;have hd2:=Pv hm h0;have en:x.len.toNat=n:=by omega
  have ed:x.dist.toNat=d:=by omega
  rw[en,ed];obtain⟨a1,a2,a3,a4,a5⟩:=wY n (by omega) n3;obtain⟨b1,b2,b3,b4⟩:=wZ d1 (by omega);have f1:=DZ (lenOf n).1 (by omega);have f2:=RF (fG d).1 (by omega);have asW:=afp (m:=m) (E:=E0) (o6:=o6) (o7:=o7) (o8:=o8) (o10:=o10) (o12:=o12) (i:=i) (c:=c) (l:=l) (tl:=[(54,.bool false)]) hn n258 hq0;obtain⟨E1,oa1,g1,g2,g3⟩:=afr (m:=m) (i:=i) (q:=q) (u:=(lenOf n).1) (v:=(lenOf n).2.1) (w:=(lenOf n).2.2) (c:=c) (l:=l) hF0 (by omega) (by omega);have k1:=(lg (cs:=lcL) (ls:=flL) (y:=(lenOf n).1) h.ok).2;have kq:∀ {E2:AM.Heap} {oa2:Option Nat},Kpw E0 E2 o12 oa oa2->E2[q]?=some (some (pxO x)):=fun hk=>by rw[hk.rest q (eX hq0) hqn.1 hqn.2];exact hq0
  obtain⟨E2,oa2,g4,g5,g6⟩:=aft (m:=m) (i:=i) (q:=q) (v:=(lenOf n).2.1) (w:=(lenOf n).2.2) (c:=c) (l:=l) g1 (by omega) hn (by omega) a3 (by omega) (kq g2);have k2:=(eU (x:=x.len-((lenOf n).2.1:Nat)) g1.ok (lenOf n).2.2).2;have asX:=afq (m:=m) (o6:=o6) (o7:=o7) (o8:=o8) (o10:=o10) (o12:=o12) (i:=i) (c:=c) (l:=l) hd d1 (by omega) (kq (g2.trans g5));obtain⟨E3,oa3,g7,g8,g9⟩:=afs (m:=m) (i:=i) (q:=q) (u:=(fG d).1) (v:=(fG d).2.1) (w:=(fG d).2.2) (c:=c) (l:=l) g4 (by omega) (by omega);have k3:=(lg (cs:=dcL) (ls:=flD) (y:=(fG d).1) g4.ok).2;obtain⟨E4,oa4,g10,g11,g12⟩:=afu (m:=m) (i:=i) (q:=q) (v:=(fG d).2.1) (w:=(fG d).2.2) (c:=c) (l:=l) g7 (by omega) hd (by omega) b2 (by omega) (kq ((g2.trans g5).trans g8));refine⟨E4,oa4,g10,_,rfl,?_⟩;apply Run.seq (fr':=pq o6 o7 o8 o10 o12 c l i) (H':=E4)
  .refine Run.block ?_ (by simp);apply Run.seq (piece UE _ rfl);apply Run.seq (fr':=yZ o6 o7 o8 o10 o12 q c l i++[(54,.bool false)]) (H':=E0)
   .apply Run.seq (piece acE _ rfl);exact Run.cond (d:=false) (by simp[yZ,aJ,aB]) ⟨0,rfl⟩
   apply Run.seq (piece asW _ rfl);apply Run.seq (piece g3 _ rfl);apply Run.seq (piece g6 _ rfl);apply Run.seq (piece asX _ rfl);apply Run.seq (piece g9 _ rfl);exact piece g12 _ rfl
  .exact piece (ajw E4) _ rfl
end
def Ky:∀ {l:List Px} {o:List UInt8},(kQ l o).2=0->∀ x∈l,oK x=true
 | [],_,_,x,hx=>by cases hx
 | y::l,o,h,x,hx=>by
  unfold kQ at h;split at h
  .cases h
  .rename_i hm;have hm:oK y=true:=by simpa using hm
   rcases ax2.1 hx with rfl|hx
   .exact hm
   .split at h
    .exact Ky h x hx
    .split at h
     .cases h
     .exact Ky h x hx
def FY:∀ (l:List Px) (s:Ws),jK s->(∀ x∈l,oK x=true)->jK (l.foldl pxW s)/\(l.foldl pxW s).k<=s.k+40*l.length
 | [],s,h,_=>⟨h,by simp⟩
 | x::l,s,h,hm=>by
  obtain⟨h1,h2⟩:=PU h (hm x (ays ..));obtain⟨h3,h4⟩:=FY l (pxW s x) h1 fun y hy=>hm y (aya _ hy);exact⟨h3,by simp only[azQ,axY];omega⟩
section
variable {E:AM.Heap}{o6 o7 o8 o10 o12:Nat}{oa:Option Nat}{s:Ws}
def aaM{m c:Nat}{l:List Px}(h:FxV E o6 o7 o8 o10 o12 oa s)(hs:s.k<=100)(hll:l.length<=2000)(hm:∀ x∈l,oK x=true):∃ code,Try.f42.body.bind (ay [1,1,1,1,1,1,1,1,0,1])=some code/\aj (Goes fun fr E'=>∃ oa',fr=pq o6 o7 o8 o10 o12 c l l.length++[(49,.bool false)]/\FxV E' o6 o7 o8 o10 o12 oa' (l.foldl pxW s)) X (evT X) 42 m code (pq o6 o7 o8 o10 o12 c l 0) E:=by
 refine⟨_,rfl,?_⟩;apply aj.block;refine aj.jP (I:=fun k fr E'=>∃ i oa' s',i<=l.length/\k=l.length-i/\fr=pq o6 o7 o8 o10 o12 c l i/\FxV E' o6 o7 o8 o10 o12 oa' s'/\s'.k<=100+40*i/\(l.drop i).foldl pxW s'=l.foldl pxW s) ?_ (k:=l.length) ⟨0,oa,s,by omega,rfl,rfl,h,by omega,rfl⟩;rintro k fr E' ⟨i,oa',s',hi,rfl,rfl,hF,hk,hf⟩;by_cases hin:i=l.length
 .rw [azm (by omega),List.foldl_nil]at hf;refine aj.of (o:=⟨.exit 0,pq o6 o7 o8 o10 o12 c l i++[(49,.bool false)],E'⟩) ?_ (.inr ⟨by simp,rfl,oa',by rw[hin],by rw[<- hf];exact hF⟩);subst hin;refine⟨0,?_⟩;simp only[pq];generalize l.map pxR=R at *;generalize l.length=N at *;simp[-getElem?_pos,go_sem]
 .have hlt:i<l.length:=by omega
  have rW:(i:Int)<(l.length:Int):=by omega
  obtain⟨x,hx⟩:∃ x,l[i]?=some x:=⟨_,axI hlt⟩;have hmx:=hm x (axT hx);have hdrop:l.drop i=x::l.drop (i+1):=by rw[ayz hlt];rw[axI hlt]at hx;rw[axN hx]
  rw[hdrop,azQ]at hf;obtain⟨E2,oa2,g1,g2⟩:=acD (m:=m) (c:=c) hF (by omega) hx (by omega) hmx;have hk2:=(PU hF.ok hmx).2;refine aj.of (o:=⟨.normal,pq o6 o7 o8 o10 o12 c l (i+1),E2⟩) ?_ (.inl ⟨rfl,l.length-(i+1),by omega,i+1,oa2,_,by omega,rfl,rfl,g1,by omega,hf⟩);apply Run.seq (fr':=pq o6 o7 o8 o10 o12 c l i++[(49,.bool true)]) (H':=E')
  .simp only[pq];generalize l.map pxR=R at *;generalize l.length=N at *;apply Pe;simp[-getElem?_pos,go_sem,rW,hlt]
  apply Run.seq (fr':=pq o6 o7 o8 o10 o12 c l i++[(49,.bool true)]) (H':=E')
  .exact Run.cond (d:=true) (by simp[pq,aJ,aB]) ⟨0,rfl⟩
  exact piece g2 _ rfl
def adz{m c i:Nat}{l:List Px}{tl:AM.Frame}(h:FxV E o6 o7 o8 o10 o12 oa s)(hl:s.k<=7000000):∃ E' oa',FxV E' o6 o7 o8 o10 o12 oa' (jZ s lcL flL 256)/\∃ code,Try.f42.body.bind (ay [1,1,1,1,1,1,1,1,1,0])=some code/\Run X (evT X) 42 m code (pq o6 o7 o8 o10 o12 c l i++tl) E ⟨.normal,[(12,.ptr o12 0 0 0)],E'⟩:=by
 obtain⟨n0,n9⟩:=DZ 256 (by omega);have hc:=uq (l:=lcL) (y:=256) (by unfold lcL;rw[wG,tX];omega);have hf:=uq (l:=flL) (y:=256) (by rw[tX];omega);obtain⟨E',oa',g1,g2,g3⟩:=Am (x:=lcL.getD 256 0) (I:=flL.getD 256 0) (n:=(flL.getD 256 0).toNat) (by omega) h.wr h.ok (by omega) (by omega);have hs:=lg (cs:=lcL) (ls:=flL) (y:=256) h.ok;refine⟨E',oa',h.step g2 g3 hs.1,_,rfl,?_⟩;have q6:=h.r6;have q8:=h.r8;simp only[flO,mF]at q6 q8;simp only[pq];generalize lcL.getD 256 0=v1 at *;generalize flL.getD 256 0=v2 at *;generalize l.map pxR=R at *;generalize l.length=N at *;generalize lcL=LC at *;generalize flL=LL at *;apply Pe;simp[-getElem?_pos,go_sem,retag,q6,q8,hc,hf,g1]
def adA{m:Nat}(h:FxV E o6 o7 o8 o10 o12 oa s)(hne:s.o≠[]):∃ a g ob,E[a]?=some (some ob)/\Rw (.pb s.o) g ob/\∃ code,Try.f42.body.bind (ay [1,1,1,1,1,1,1,1,1,1,0])=some code/\Run X (evT X) 42 m code [(12,.ptr o12 0 0 0)] E ⟨.normal,[(2,.sl a 0 s.o.length g),(3,.int .i64 0)],E⟩:=by
 obtain⟨⟨vo,τ,a1,h0,ho⟩,hn⟩:=id h.wr;cases hq:oa with
 | none=>rw[hq]at ho;exact absurd ho.1 hne
 | some a=>
  rw[hq]at ho;obtain⟨g,τ2,ob,hτ2,rfl,h3,h4⟩:=ho;have ht:τ2=0:=hτ2.elim id id;refine⟨a,g,ob,h3,⟨h4.p,h4.g,h4.row,h4.ids,by rw[h4.tg,ht]⟩,_,rfl,?_⟩;simp only[jH]at h0;generalize s.o.length=N at *;apply Pe;simp[-getElem?_pos,go_sem,h0,ak]
end
end Go.Proofs.Ytbodincpjijdiaa
