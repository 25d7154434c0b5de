/- N4 to T9: texts of this claim, one behind the other; what each shows stands at its head. -/
import Derived.Test.YtbodincpjijdiaaAm4
import Derived.Test.YtbodincpjijdiaaMg10
set_option linter.defProp false
set_option linter.unusedSimpArgs false
set_option linter.unusedVariables false
set_option maxRecDepth 100000
set_option maxHeartbeats 8000000
namespace Go.Proofs.Ytbodincpjijdiaa
open Go.AM
section
variable {c:Nat}{b:List UInt8}{mo:Int}{E:AM.Heap}
def VU{m F:Nat}(hb:b.length<=100000)(hm:mo<=1000000)(hF:8*b.length<F)(hF2:F<=1000000)(hQ:zu (b.drop 2) 0 []):∃ code,Try.f40.body=some code/\aj (lG (upX F b mo)) X (evT X) 40 m code [(0,.ro c (.pb b) 1),(1,.int .i64 mo)] []:=by
 refine⟨_,rfl,?_⟩;apply aj.seq (fr':=[(0,.ro c (.pb b) 1),(1,.int .i64 mo)]) (H':=[jA])
 .apply Pe;simp[-getElem?_pos,go_sem,ak,rowOf,emY,jA]
 have hE1:[jA].length=1:=rfl;generalize [jA]=E1 at *;apply aj.assoc;by_cases h0:mo<0
 .apply aj.seq (fr':=[(0,.ro c (.pb b) 1),(1,.int .i64 mo),(12,.bool true)]) (H':=E1)
  .apply Pe;simp[-getElem?_pos,go_sem,h0]
  refine aj.zx ?_ (fun o ho=>by rw[ho.1];simp);refine aj.y5 (by simp[aJ,aB]) ?_;refine aj.of (o:=⟨.ret,[(4,.sl E1.length 0 0 0),(5,.int .i64 2)],E1++[jA]⟩) ⟨0,?_⟩ ⟨rfl,yx (by unfold zy;rw[if_pos h0])⟩;simp[-getElem?_pos,go_sem,ak,rowOf,emY,jA]
 apply aj.seq (fr':=[(0,.ro c (.pb b) 1),(1,.int .i64 mo),(12,.bool false)]) (H':=E1)
 .apply Pe;simp[-getElem?_pos,go_sem,h0]
 apply aj.seq (fr':=[(0,.ro c (.pb b) 1),(1,.int .i64 mo),(12,.bool false)]) (H':=E1)
 .exact Run.cond (d:=false) (by simp[aJ,aB]) ⟨0,rfl⟩
 have hH:=aae (H:=E1) (a:=.ro c (.pb b) 1) (b:=b) rfl (by omega);apply aj.assoc;apply aj.seq (fr':=[(0,.ro c (.pb b) 1),(1,.int .i64 mo),(6,.int .i64 (qW b))]) (H':=E1)
 .generalize qW b=hd at *;apply Pe;simp[-getElem?_pos,go_sem,hH]
 apply aj.assoc;by_cases h1:¬ qW b=0
 .have h1b:(qW b != 0)=true:=by simpa using h1
  have he:zy F b mo=([],qW b):=by unfold zy;rw[if_neg h0,if_pos h1]
  generalize qW b=hd at *;apply aj.seq (fr':=[(0,.ro c (.pb b) 1),(1,.int .i64 mo),(6,.int .i64 hd),(16,.bool true)]) (H':=E1)
  .apply Pe;simp[-getElem?_pos,go_sem,h1,h1b]
  refine aj.zx ?_ (fun o ho=>by rw[ho.1];simp);refine aj.y5 (by simp[aJ,aB]) ?_;refine aj.of (o:=⟨.ret,[(4,.sl E1.length 0 0 0),(5,.int .i64 hd)],E1++[jA]⟩) ⟨0,?_⟩ ⟨rfl,yx he⟩;simp[-getElem?_pos,go_sem,ak,rowOf,emY,jA]
 have h1:qW b=0:=Classical.not_not.1 h1;rw[h1];have hlen2:2<=b.length:=by refine Classical.byContradiction fun hc=>?_;unfold qW at h1;rw[if_pos (by omega)]at h1;exact absurd h1 (by decide)
 apply aj.seq (fr':=[(0,.ro c (.pb b) 1),(1,.int .i64 mo),(6,.int .i64 0),(16,.bool false)]) (H':=E1)
 .apply Pe;simp[-getElem?_pos,go_sem]
 apply aj.seq (fr':=[(0,.ro c (.pb b) 1),(1,.int .i64 mo),(6,.int .i64 0),(16,.bool false)]) (H':=E1)
 .exact Run.cond (d:=false) (by simp[aJ,aB]) ⟨0,rfl⟩
 obtain⟨out,n,e,v,R1,hI,q2,q3⟩:=VW (F:=F) (H:=E1) (a:=.ro (if c=0 then 0 else c) (.pb (b.drop 2)) 1) (b:=b.drop 2) (mo:=mo) rfl (by rw[axW];omega) hm (by omega) (by rw[axW];omega) hF2 hQ;have hu:zy F b mo=if e≠0 then([],e)else if(b.drop (2+n.toNat)).length<4 then([],4)else if un4 (b.drop (2+n.toNat))≠adl out then([],8)else if 4<(b.drop (2+n.toNat)).length then([],5)else(out,0):=by unfold zy;rw[if_neg h0,h1,if_neg (by simp),hI]
 generalize E1++R1=F1 at *;have hA:=q3.asg (by simp[vM]);have hv:=q3.v;generalize hE2:F1=E2 at *;apply aj.seq (fr':=[(0,.ro c (.pb b) 1),(7,v),(8,.int .i64 n),(9,.int .i64 e)]) (H':=E2)
 .have hA':=hA;simp only[ak,lM]at hA';have hlI:(2:Int)<=(b.length:Int):=by omega
  have hd:(b.drop 2).take (b.length-2)=b.drop 2:=aym (by rw[axW];omega);generalize hN:b.length=N at *;apply Pe;simp[-getElem?_pos,go_sem,gY,bound,gq,hN,hlI,hlen2,hd,q2,hA',afv]
 clear q2;apply aj.assoc;by_cases he:¬ e=0
 .have heb:(e != 0)=true:=by simpa using he
  rw[if_pos he]at hu;apply aj.seq (fr':=[(0,.ro c (.pb b) 1),(7,v),(8,.int .i64 n),(9,.int .i64 e),(27,.bool true)]) (H':=E2)
  .apply Pe;simp[-getElem?_pos,go_sem,he,heb]
  refine aj.zx ?_ (fun o ho=>by rw[ho.1];simp);refine aj.y5 (by simp[aJ,aB]) ?_;refine aj.of (o:=⟨.ret,[(4,.sl E2.length 0 0 0),(5,.int .i64 e)],E2++[jA]⟩) ⟨0,?_⟩ ⟨rfl,yx hu⟩;simp[-getElem?_pos,go_sem,ak,rowOf,emY,jA]
 have he:e=0:=Classical.not_not.1 he;subst he;rw[if_neg (by simp)]at hu;obtain⟨N,rfl,hN1,hN2⟩:=afw (by omega) hI;rw[axW]at hN1;rw[ayA]at hu;apply aj.seq (fr':=[(0,.ro c (.pb b) 1),(7,v),(8,.int .i64 (N:Nat)),(9,.int .i64 0),(27,.bool false)]) (H':=E2)
 .apply Pe;simp[-getElem?_pos,go_sem]
 apply aj.seq (fr':=[(0,.ro c (.pb b) 1),(7,v),(8,.int .i64 (N:Nat)),(9,.int .i64 0),(27,.bool false)]) (H':=E2)
 .exact Run.cond (d:=false) (by simp[aJ,aB]) ⟨0,rfl⟩
 apply aj.seq (fr':=[(0,.ro (if c=0 then 0 else c) (.pb (b.drop (2+N))) 1),(7,v)]) (H':=E2)
 .have w1:IntKind.i64.wrap (2+(N:Int))=((2+N:Nat):Int):=by rw[wrap_i64 (by omega) (by omega)];omega
  have hle:2+N<=b.length:=by omega
  have am2:((2+N:Nat):Int)<=(b.length:Int):=by omega
  have hd:(b.drop (2+N)).take (b.length-(2+N))=b.drop (2+N):=aym (by rw[axW];omega);generalize 2 + N=N2 at *;generalize hL:b.length=L at *;apply Pe;simp[-getElem?_pos,go_sem,gY,bound,gq,w1,hle,am2,hL,hd,ak]
 generalize b.drop (2 + N)=r at *;generalize (if c=0 then 0 else c)=c' at *;apply aj.assoc;by_cases h4:r.length<4
 .have h4I:(r.length:Int)<4:=by omega
  rw[if_pos h4]at hu;apply aj.seq (fr':=[(0,.ro c' (.pb r) 1),(7,v),(35,.bool true)]) (H':=E2)
  .generalize hL:r.length=L at *;apply Pe;simp[-getElem?_pos,go_sem,h4I,h4,hL]
  refine aj.zx ?_ (fun o ho=>by rw[ho.1];simp);refine aj.y5 (by simp[aJ,aB]) ?_;refine aj.of (o:=⟨.ret,[(4,.sl E2.length 0 0 0),(5,.int .i64 4)],E2++[jA]⟩) ⟨0,?_⟩ ⟨rfl,yx hu⟩;simp[-getElem?_pos,go_sem,ak,rowOf,emY,jA]
 have h4I:¬ (r.length:Int)<4:=by omega
 rw[if_neg h4]at hu;apply aj.seq (fr':=[(0,.ro c' (.pb r) 1),(7,v),(35,.bool false)]) (H':=E2)
 .generalize hL:r.length=L at *;apply Pe;simp[-getElem?_pos,go_sem,h4I,h4,hL]
 apply aj.seq (fr':=[(0,.ro c' (.pb r) 1),(7,v),(35,.bool false)]) (H':=E2)
 .exact Run.cond (d:=false) (by simp[aJ,aB]) ⟨0,rfl⟩
 apply aj.assoc;apply aj.seq (piece (ade (by omega)) _ rfl);have hS:=aaf hv (by omega);have ha1:=Py out;apply aj.assoc;by_cases h8:¬ un4 r=adl out
 .have h8b:(((un4 r:Nat):Int) != ((adl out:Nat):Int))=true:=by simp;omega
  have h8I:¬ ((un4 r:Nat):Int)=((adl out:Nat):Int):=by omega
  rw[if_pos h8]at hu;generalize un4 r=x1 at *;generalize adl out=x2 at *;apply aj.seq (fr':=[(0,.ro c' (.pb r) 1),(7,v),(61,.bool true)]) (H':=E2)
  .apply Pe;simp[-getElem?_pos,go_sem,hS,h8,h8I,h8b]
  refine aj.zx ?_ (fun o ho=>by rw[ho.1];simp);refine aj.y5 (by simp[aJ,aB]) ?_;refine aj.of (o:=⟨.ret,[(4,.sl E2.length 0 0 0),(5,.int .i64 8)],E2++[jA]⟩) ⟨0,?_⟩ ⟨rfl,yx hu⟩;simp[-getElem?_pos,go_sem,ak,rowOf,emY,jA]
 have h8:un4 r=adl out:=Classical.not_not.1 h8;rw[if_neg (by simp[h8])]at hu;rw[h8];apply aj.seq (fr':=[(0,.ro c' (.pb r) 1),(7,v),(61,.bool false)]) (H':=E2)
 .generalize adl out=x2 at *;apply Pe;simp[-getElem?_pos,go_sem,hS]
 apply aj.seq (fr':=[(0,.ro c' (.pb r) 1),(7,v),(61,.bool false)]) (H':=E2)
 .exact Run.cond (d:=false) (by simp[aJ,aB]) ⟨0,rfl⟩
 apply aj.assoc;by_cases h5:4<r.length
 .have h5I:(4:Int)<(r.length:Int):=by omega
  rw[if_pos h5]at hu;apply aj.seq (fr':=[(7,v),(64,.bool true)]) (H':=E2)
  .generalize hL:r.length=L at *;apply Pe;simp[-getElem?_pos,go_sem,h5I,h5,hL]
  refine aj.zx ?_ (fun o ho=>by rw[ho.1];simp);refine aj.y5 (by simp[aJ,aB]) ?_;refine aj.of (o:=⟨.ret,[(4,.sl E2.length 0 0 0),(5,.int .i64 5)],E2++[jA]⟩) ⟨0,?_⟩ ⟨rfl,yx hu⟩;simp[-getElem?_pos,go_sem,ak,rowOf,emY,jA]
 have h5I:¬ (4:Int)<(r.length:Int):=by omega
 rw[if_neg h5]at hu;apply aj.seq (fr':=[(7,v),(64,.bool false)]) (H':=E2)
 .generalize hL:r.length=L at *;apply Pe;simp[-getElem?_pos,go_sem,h5I,h5,hL]
 apply aj.seq (fr':=[(7,v),(64,.bool false)]) (H':=E2)
 .exact Run.cond (d:=false) (by simp[aJ,aB]) ⟨0,rfl⟩
 refine aj.of (o:=⟨.ret,[(4,v),(5,.int .i64 0)],E2⟩) ⟨0,?_⟩ ⟨rfl,v,?_,?_⟩
 .have hA':=hA;simp only[ak,lM]at hA';simp[-getElem?_pos,go_sem,hA',afv]
 .rw [hu];rfl
 .rw [hu];exact q3
def aag{F:Nat}{H:AM.Heap}{a:AV}(ha:fJ H a=some (.pb b))(hb:b.length<=100000)(hm:mo<=1000000)(hF:8*b.length<F)(hF2:F<=1000000)(hQ:zu (b.drop 2) 0 []) :
 ∃ v R,evT X 40 [a,.int .i64 mo] H=some (.tup [v,.int .i64 (zy F b mo).2],H++R)/\Pz (vM H a) (H++R) v (zy F b mo).1/\∀ x∈ids v,H.length<=x:=by
 obtain⟨code,hc,hT⟩:=VU (m:=0) (c:=qK H a) (b:=b) (mo:=mo) hb hm hF hF2 hQ;exact Um (rest:=[.int .i64 (zy F b mo).2]) Try.func40 hc rfl rfl ha rfl rfl rfl (by simp) (by
  rw[afx];exact hT)
end
section
variable {m nx t:Nat}{H:AM.Heap}{o off:Nat}{oa:Option (Nat×Nat)}{L:List UInt8}
def afy{f n:Nat}{fn:Func}{code:Code}{xs ys:List AV}{nx':Nat}{l:List AV}(hF:X.P.funcs[f]?=some fn)(hb:fn.body=some code)(hrw:X.rw f 0=false)(h:QV m t H o oa nx L off)
 (hA:∀ K,gG X f H (qπ o oa) K 1 xs ys)(hi:aC ys=[])(hn:xs.length+2=n)(hng:n<dA)(hil:aC l=[])(htl:aW l=[])(hnt:dB l=true)
 (run:∀ mm E oa1,QV m n E 0 oa1 nx L off->∃ code,fn.body=some code/\aj (jO fun fr E'=>∃ oa2,aT X fr E' fn.results.toList=some l/\QV m n E' 0 oa2 nx' L off/\∀ a g,oa1=some (a,g)->∃ g',oa2=some (a,g')) X (evT X) f mm code (numbered 0 (coerce X (.ptr 0 0 0 0::ys) (aI X f))) E) :
 ∃ H' oa',evT X f (.ptr o 0 0 0::xs) H=some (aG l,H')/\QV m t H' o oa' nx' L off/\KpQ H H' o oa oa':=by
 have hid:ids (aG l)=[]:=by rw[iK hnt];exact hil
 have htg:tags (aG l)=[]:=by rw[gV hnt];exact htl
 obtain⟨H',oa',nx2,L2,off2,w0,ex,ps,τf,hE,_,hV,_,_,_,⟨rfl,rfl,rfl,rfl⟩,hK,_⟩:=VX (Q:=fun nx2 L2 off2 w0 _=>nx2=nx'/\L2=L/\off2=off/\w0=aG l) hF hb hrw h hA hi hn hng (by
  intro mm E oa1 _ _ _ hE;obtain⟨nM,hc2,ht⟩:=run mm E oa1 hE;refine⟨nM,hc2,ht.mono fun out ho=>⟨ho.1,?_⟩⟩;obtain⟨oa2,q1,q2,q3⟩:=ho.2;refine⟨nx',L,off,oa2,l,[],[],aG l,q1,q2,q3,trivial,by simp,?_,by simp[hid],fun k hk=>(by rw[hid]at hk;cases hk),fun k h1 h2=>(by rw[ax1]at h2;omega),fun k hk=>(by rw[htg]at hk;cases hk),?_,rfl,rfl,rfl,rfl⟩
  .rw [ax1];exact q2.img.nodup
  .exact (gX _ hid (fun k hk=>rfl)).symm)
 rw[gX (aG l) hid (fun k hk=>by rw[htg]at hk;cases hk)]at hE;exact⟨H',oa',hE,hV,hK⟩
def VY(h:QV m t H o oa nx L off)(hm:0<m):∃ H' oa',evT X 28 [.ptr o 0 0 0] H=some (.bool false,H')/\QV m t H' o oa' nx L off/\KpQ H H' o oa oa':=by
 obtain⟨code,hc⟩:∃ code,Try.f28.body=some code:=⟨_,rfl⟩;refine afy (f:=28) (n:=2) (xs:=[]) (ys:=[]) (l:=[.bool false]) Try.func28 hc rfl h (fun K=>gG.nil) rfl rfl (by simp[dA]) rfl rfl rfl fun mm E oa1 hE=>⟨_,rfl,?_⟩;obtain⟨⟨v,τ,_,h0,_⟩,_⟩:=id hE;rw[afz];change aj _ _ _ _ _ _ [(0,.ptr 0 0 0 0)] _;refine aj.of (o:=⟨.ret,[(2,.bool false)],E⟩) ⟨0,?_⟩ ⟨.inr rfl,oa1,rfl,hE,fun a g ha=>⟨g,ha⟩⟩;have h1:((m:Int)==0)=false:=by simp;omega
 have h2:m≠0:=by omega
 simp only[fK]at h0;simp[-getElem?_pos,go_sem,h0,h1,h2,ak,isNil,jW]
def bdQ(k:Int):lH X 43 [(0,.int .i64 k)]=some (.agg (.pc [.int .i64 k,.int .u8 0,.ro 0 .pn 0,.int .i64 0])):=by kernel_rfl
def aah(h1:1<=m)(h2:m<=16777215):evT X 14 [.int .i64 (m:Nat)] H=some (.tup [.ptr H.length 0 0 0,.int .i64 0],H++[some (fK m 0 (.ro 0 .pn 0) 0)]):=by
 have hr:∃ code,Try.f14.body=some code/\Run X (evT X) 14 0 code [(0,.int .i64 (m:Nat))] [] ⟨.ret,[(2,.ptr 0 0 0 0),(3,.int .i64 0)],[some (fK m 0 (.ro 0 .pn 0) 0)]⟩:=by
  refine⟨_,rfl,0,?_⟩;have q1:¬ (m:Int)<1:=by omega
  have q2:¬ (16777215:Int)<(m:Int):=by omega
  have q3:¬ 16777215<m:=by omega
  have q4:¬ m<1:=by omega
  have q5:¬ m=0:=by omega
  simp[-getElem?_pos,go_sem,q1,q2,q3,q4,q5,bdQ,fK,ak]
 obtain⟨code,hcode,hr⟩:=hr;exact dI (Ev1.newP (n:=2) (rest:=[.int .i64 0]) (bC X) Try.func14 hcode (dX (i:=0) rfl rfl (dR 1)) rfl rfl (by simp[dA]) rfl rfl rfl (by simp[fK,ids,aC]) (by simp[fK,tags,aW]) rfl rfl (by simp[fK]) ⟨_,⟨rfl,0,rfl,rfl⟩,by rw[afA];exact hr⟩)
end
def EP{H:AM.Heap}{a g off n τ:Nat}{ob:AM.Obj}{L:List UInt8}(ha:H[a]?=some (some ob))(hw:RwT (.pb L) g τ ob)(h:off+n<=L.length):fJ H (.sl a off n g)=some (.pb ((L.drop off).take n)):=by
 have q1:=hw.p;have q2:=hw.g;have q4:=hw.ids;simp[fJ,live,ha,q1,q2,q4,gq,h]
def VZ{H:AM.Heap}{a:AV}{b:List UInt8}(h:fJ H a=some (.pb b))(hb:b.length<=90000000)(h3:3<=b.length):evT X 39 [a,.int .i64 3] H=some (.tup [.int .u64 (leV (b.take 3):Nat),.int .i64 0],H):=by
 obtain⟨c,x,hx⟩:=iy (C:=X) (f:=39) (i:=0) rfl h (dX (i:=1) (a:=.int .i64 3) rfl rfl (dR 2));obtain⟨code,hcode,hr⟩:=wU (evT X) c b 3 (by omega);rw[show rfR b 3=(((leV (b.take 3):Nat):Int),(0:Int))by unfold rfR;rw[if_neg (by omega),if_neg (by omega)];rfl]at hr;refine dI (Ev1.rU (l:=[.int .u64 (leV (b.take 3):Nat),.int .i64 0]) (bC X) Try.func39 hcode hx (by simp[aC,ids]) (by simp[dA]) rfl rfl rfl ?_);rw[acF];exact⟨_,⟨rfl,rfl⟩,hr⟩
section
variable {m nx a g off N n1 m1 τ τ2 mm:Nat}{E:AM.Heap}{L:List UInt8}{ob:AM.Obj}{tl:AM.Frame}
def qB(n1 m1:Nat)(tl:AM.Frame):AM.Frame:=[(0,.ptr 0 0 0 0),(9,.int .i64 (n1:Nat)),(10,.int .i64 (m1:Nat))]++tl
def aai(h0:E[0]?=some (some (fK m nx (.sl a off N g) τ)))(ha:E[a]?=some (some ob))(hw:RwT (.pb L) g τ2 ob)(hN:off+N=L.length)(h7:7<=N)(hL:L.length<=90000000)(hn:leV ((L.drop off).take 3)=n1)(hm:leV (((L.drop off).drop 4).take 3)=m1) :
 ∃ code,Try.f29.body.bind (ay [1,0])=some code/\Run X (evT X) 29 mm code [(0,.ptr 0 0 0 0)] E ⟨.normal,[(0,.ptr 0 0 0 0),(5,.int .u64 (n1:Nat))],E⟩:=by
 refine⟨_,rfl,?_⟩;have e1:=VZ (H:=E) (a:=.sl a off N g) (b:=L.drop off) (by rw[EP ha hw (by omega),aym (by rw[axW];omega)]) (by rw[axW];omega) (by rw[axW];omega);rw[hn]at e1;simp only[fK]at h0;apply Pe;simp[-getElem?_pos,go_sem,h0,e1]
def afB(h0:E[0]?=some (some (fK m nx (.sl a off N g) τ)))(ha:E[a]?=some (some ob))(hw:RwT (.pb L) g τ2 ob)(hN:off+N=L.length)(h7:7<=N)(hL:L.length<=90000000)(hm:leV (((L.drop off).drop 4).take 3)=m1) :
 ∃ code,Try.f29.body.bind (ay [1,1,0])=some code/\Run X (evT X) 29 mm code [(0,.ptr 0 0 0 0),(5,.int .u64 (n1:Nat))] E ⟨.normal,[(0,.ptr 0 0 0 0),(5,.int .u64 (n1:Nat)),(7,.int .u64 (m1:Nat))],E⟩:=by
 refine⟨_,rfl,?_⟩;have e1:=VZ (H:=E) (a:=.sl a (off+4) (N-4) g) (b:=(L.drop off).drop 4) (by rw[EP ha hw (by omega),azc,aym (by rw[axW];omega)]) (by rw[axW,axW];omega) (by rw[axW,axW];omega);rw[hm]at e1;have h4:(4:Int)<=(N:Int):=by omega
 have h4N:4<=N:=by omega
 have hg:=hw.g;have hp:=hw.p;have hi:=hw.ids;simp only[fK]at h0;apply Pe;simp[-getElem?_pos,go_sem,h0,ha,hg,hp,gY,bound,h4,h4N,e1]
def afC(hn:n1<=90000000)(hm:m1<=90000000):∃ code,Try.f29.body.bind (ay [1,1,1,0])=some code/\Run X (evT X) 29 mm code [(0,.ptr 0 0 0 0),(5,.int .u64 (n1:Nat)),(7,.int .u64 (m1:Nat))] E ⟨.normal,qB n1 m1 [],E⟩:=by
 refine⟨_,rfl,?_⟩;have w1:IntKind.i64.wrap (n1:Int)=(n1:Nat):=wrap_i64 (by omega) (by omega);have w2:IntKind.i64.wrap (m1:Int)=(m1:Nat):=wrap_i64 (by omega) (by omega);unfold qB;apply Pe;simp[-getElem?_pos,go_sem,w1,w2]
def acG(h0:E[0]?=some (some (fK m nx (.sl a off N g) τ)))(hn:n1<=m)(hm:m1<=m):∃ code,Try.f29.body.bind (ay [1,1,1,1,0,0,0])=some code/\Run X (evT X) 29 mm code (qB n1 m1 []) E ⟨.normal,qB n1 m1 [(35,.bool false)],E⟩:=by
 refine⟨_,rfl,?_⟩;have q1:¬ (m:Int)<(n1:Int):=by omega
 have q2:¬ (m:Int)<(m1:Int):=by omega
 have q3:¬ m<n1:=by omega
 have q4:¬ m<m1:=by omega
 unfold qB;simp only[fK]at h0;apply Pe;simp[-getElem?_pos,go_sem,h0,q1,q2,q3,q4]
def acH(h0:E[0]?=some (some (fK m nx (.sl a off N g) τ)))(ha:E[a]?=some (some ob))(hw:RwT (.pb L) g τ2 ob)(h7:7<=N)(hx:L[off+3]?=some (UInt8.ofNat nx))(hnx:nx<256):∃ code,Try.f29.body.bind (ay [1,1,1,1,0,0,1,1,0])=some code/\Run X (evT X) 29 mm code (qB n1 m1 [(35,.bool false)]) E ⟨.normal,qB n1 m1 [(50,.bool false)],E⟩:=by
 refine⟨_,rfl,?_⟩;have h3:(3:Int)<(N:Int):=by omega
 have h3N:3<N:=by omega
 have hg:=hw.g;have hp:=hw.p;have hi:=hw.ids;have hk:(UInt8.ofNat nx).toNat=nx:=by rw[ayU];omega
 unfold qB;simp only[fK]at h0;apply Pe;simp[-getElem?_pos,go_sem,h0,ha,hg,hp,hi,h3,h3N,hx,hk]
def afD(h0:E[0]?=some (some (fK m nx (.sl a off N g) τ)))(ha:E[a]?=some (some ob))(hw:RwT (.pb L) g τ2 ob)(hn:n1<=90000000):∃ code,Try.f29.body.bind (ay [1,1,1,1,0,0,1,1,1,1,0])=some code/\Run X (evT X) 29 mm code (qB n1 m1 [(50,.bool false)]) E ⟨.normal,qB n1 m1 [(62,.bool (decide (N<7+n1)))],E⟩:=by
 refine⟨_,rfl,?_⟩;have hg:=hw.g;have w:IntKind.i64.wrap (7+(n1:Int))=((7+n1:Nat):Int):=by rw[wrap_i64 (by omega) (by omega)];omega
 unfold qB;simp only[fK]at h0;generalize 7 + n1=k at *;by_cases hk:N<k
 .have hkI:(N:Int)<(k:Int):=by omega
  rw[decide_eq_true hk];apply Pe;simp[-getElem?_pos,go_sem,h0,ha,hg,w,hk,hkI]
 .have hkI:¬ (N:Int)<(k:Int):=by omega
  rw[decide_eq_false hk];apply Pe;simp[-getElem?_pos,go_sem,h0,ha,hg,w,hk,hkI]
def adf(h0:E[0]?=some (some (fK m nx (.sl a off N g) τ)))(ha:E[a]?=some (some ob))(hw:RwT (.pb L) g τ2 ob)(hk:7+n1<=N)(hN:N<=90000000)(hNL:off+N=L.length)(htl:tl=[(62,.bool false)]):∃ code,Try.f29.body.bind (ay [1,1,1,1,1,0])=some code/\Run X (evT X) 29 mm code (qB n1 m1 tl) E ⟨.normal,qB n1 m1 [(11,.sl a (off+7) n1 g)],E⟩:=by
 refine⟨_,rfl,?_⟩;have hg:=hw.g;have hp:=hw.p;have hi:=hw.ids;have w:IntKind.i64.wrap (7+(n1:Int))=((7+n1:Nat):Int):=by rw[wrap_i64 (by omega) (by omega)];omega
 have q1:(7:Int)<=((7+n1:Nat):Int):=by omega
 have q2:((7+n1:Nat):Int)<=(N:Int):=by omega
 have q3:7+n1-7=n1:=by omega
 have q4:7<=7+n1:=by omega
 have q5:7+n1<=L.length-off:=by omega
 unfold qB;simp only[fK]at h0;rw[htl];generalize 7 + n1=k at *;apply Pe;simp[-getElem?_pos,go_sem,h0,ha,hg,hp,gY,bound,w,q1,q2,q3,q4,q5,hk,ak]
def adg(h0:E[0]?=some (some (fK m nx (.sl a off N g) τ)))(ha:E[a]?=some (some ob))(hw:RwT (.pb L) g τ2 ob)(hk:7+n1<=N)(hN:N<=90000000):∃ code,Try.f29.body.bind (ay [1,1,1,1,1,1,0])=some code/\Run X (evT X) 29 mm code (qB n1 m1 [(11,.sl a (off+7) n1 g)]) E ⟨.normal,[(10,.int .i64 (m1:Nat)),(11,.sl a (off+7) n1 g)],AM.upd E 0 (some (fK m nx (.sl a (off+(7+n1)) (N-(7+n1)) g) τ))⟩:=by
 refine⟨_,rfl,?_⟩;have hg:=hw.g;have hp:=hw.p;have hi:=hw.ids;have w:IntKind.i64.wrap (7+(n1:Int))=((7+n1:Nat):Int):=by rw[wrap_i64 (by omega) (by omega)];omega
 have q2:((7+n1:Nat):Int)<=(N:Int):=by omega
 unfold qB;simp only[fK]at h0 ⊢;generalize 7 + n1=k at *;apply Pe;simp[-getElem?_pos,go_sem,h0,ha,hg,hp,gY,bound,w,q2,hk,ak]
end
def OnQ(L told:List UInt8)(off n1:Nat)(off':Nat)(w0:AV)(ps:List AV):Prop :=
 (L.length-off<7+n1/\off'=off/\ps=[.pb []]/\w0=.tup [.sl 2 0 0 0,.bool false,.int .i64 0]) \/
 (7+n1<=L.length-off/\off'=off+(7+n1)/\((ps=[]/\told=(L.drop (off+7)).take n1/\w0=.tup [.sl 1 (off+7) n1 0,.bool true,.int .i64 0])\/(ps=[.pb told]/\w0=.tup [.sl 2 0 told.length 0,.bool true,.int .i64 0])))
def OnH(x told:List UInt8)(m1:Nat):Prop:=(m1=0/\told=x)\/(m1≠0/\zy 600000 x (m1:Nat)=(told,0)/\told.length=m1/\zu (x.drop 2) 0 [])
section
variable {m nx n1 m1 off mm:Nat}{E:AM.Heap}{L told:List UInt8}{oa1:Option (Nat×Nat)}
def QV.upd{t a g off off2 N2 τ:Nat}{E:AM.Heap}(h:QV m t E 0 (some (a,g)) nx L off)(h0:E[0]?=some (some (fK m nx (.sl a off (L.length-off) g) τ)))(hτ:τ=0\/τ=t)(h1:off2<=L.length)(h2:N2=L.length-off2):QV m t (AM.upd E 0 (some (fK m nx (.sl a off2 N2 g) τ))) 0 (some (a,g)) nx L off2:=by
 obtain⟨⟨v,τ2,_,_,_,_,τ3,ob,q1,q2,q3⟩,hne⟩:=h;subst h2;exact⟨⟨_,τ,hτ,by unfold AM.upd;exact setAt h0,h1,rfl,τ3,ob,q1,by unfold AM.upd;exact rV q2 (ax6 (hne _ _ rfl)),q3⟩,hne⟩
def QV.cat{t o:Nat}{E r:AM.Heap}{oa:Option (Nat×Nat)}(h:QV m t E o oa nx L off):QV m t (E++r) o oa nx L off:=by
 obtain⟨⟨v,τ,h1,h2,h3⟩,hne⟩:=h;refine⟨⟨v,τ,h1,tK h2,?_⟩,hne⟩;cases oa with
 | none=>exact h3
 | some x=>
  obtain⟨q1,q2,τ2,ob,q3,q4,q5⟩:=h3;exact⟨q1,q2,τ2,ob,q3,tK q4,q5⟩
def V3(h:QV m 2 E 0 oa1 nx L off)(hm:m<=100000)(hnx:nx<256)(h7:7<=L.length-off)(hL:L.length<=60000)(hn:leV ((L.drop off).take 3)=n1)(hm1:leV (((L.drop off).drop 4).take 3)=m1)(hn2:n1<=m)(hm2:m1<=m)(hx:L[off+3]?=some (UInt8.ofNat nx))(hU:7+n1<=L.length-off->OnH ((L.drop (off+7)).take n1) told m1) :
 ∃ code,Try.f29.body=some code/\aj (jO fun fr E'=>∃ nx' L' off' oa' l ex ps w0,aT X fr E' Try.f29.results.toList=some l/\QV m 2 E' 0 oa' nx' L' off'/\(∀ a g,oa1=some (a,g)->∃ g',oa'=some (a,g')) /\
  eG 2 E' ex ps/\(∀ p∈ps,ids p=[]/\tags p=[])/\((qπ 0 oa'++ex).map Prod.fst).Nodup/\(ids w0).length<=1000/\(∀ k∈ids w0,k<(qπ 0 oa'++ex).length)/\(∀ k,(qπ 0 oa').length<=k->k<(qπ 0 oa'++ex).length->k∈ids w0)/\(∀ k∈tags w0,k=0\/k=2)/\aG l=ren (gQ (qπ 0 oa'++ex)) (fun t=>t) w0/\nx'=nx/\L'=L/\OnQ L told off n1 off' w0 ps)
  X (evT X) 29 mm code [(0,.ptr 0 0 0 0)] E:=by
 refine⟨_,rfl,?_⟩;cases oa1 with
 | none=>
  obtain⟨h1,h2⟩:=h.nil rfl;rw[h1]at h7;simp at h7
 | some y=>
 obtain⟨a,g⟩:=y;obtain⟨⟨v,τ,hτ,h0,hof,rfl,τ2,ob,hτ2,ha,hw⟩,hne⟩:=id h;have ha0:=hne a g rfl;have hlt:=eX ha;have hN:off+(L.length-off)=L.length:=by omega
 generalize hNe:L.length-off=N at *;have k0:(E++[jA])[0]?=some (some (fK m nx (.sl a off N g) τ)):=tK h0;have ka:(E++[jA])[a]?=some (some ob):=tK ha;have hV1:QV m 2 (E++[jA]) 0 (some (a,g)) nx L off:=h.cat;have hl1:a<(E++[jA]).length:=by simp;omega
 apply aj.seq (fr':=[(0,.ptr 0 0 0 0)]) (H':=E++[jA])
 .apply Pe;simp[-getElem?_pos,go_sem,ak,rowOf,emY,jA]
 generalize E++[jA]=E1 at *;apply aj.seq (piece (aai (m1:=m1) k0 ka hw hN (by omega) (by omega) hn hm1) _ rfl);apply aj.seq (piece (afB k0 ka hw hN (by omega) (by omega) hm1) _ rfl);apply aj.seq (piece (afC (by omega) (by omega)) _ rfl);have r8:=afD (mm:=mm) (n1:=n1) (m1:=m1) k0 ka hw (by omega);have hE0:E1.length≠0:=by omega
 have haE:a≠E1.length:=by omega
 by_cases hk:N<7+n1
 .rw [decide_eq_true hk]at r8;have hR:∃ code,Try.f29.body.bind (ay [1,1,1,1,0])=some code/\Run X (evT X) 29 mm code (qB n1 m1 []) E1 ⟨.ret,[(2,.sl E1.length 0 0 0),(3,.bool false),(4,.int .i64 0)],E1++[jA]⟩:=by refine⟨_,rfl,Run.block (Run.seq (piece (acG k0 hn2 hm2) _ rfl) (Run.cond (d:=false) (by simp[qB,aJ,aB]) (Run.seq (piece (acH k0 ka hw (by omega) hx hnx) _ rfl) (Run.cond (d:=false) (by simp[qB,aJ,aB]) (Run.seq (piece r8 _ rfl) (Run.cond (d:=true) (by simp[qB,aJ,aB]) ?_)))))) (by simp)⟩;unfold qB;apply Pe;simp[-getElem?_pos,go_sem,ak,rowOf,emY,jA]
  refine aj.of (o:=⟨.ret,[(2,.sl E1.length 0 0 0),(3,.bool false),(4,.int .i64 0)],E1++[jA]⟩) (Run.bK (piece hR _ rfl) (by simp)) ⟨.inr rfl,nx,L,off,some (a,g),_,[(E1.length,0)],[.pb []],.tup [.sl 2 0 0 0,.bool false,.int .i64 0],rfl,hV1.cat,fun a' g' h=>⟨g',h⟩,⟨⟨0,_,.inl rfl,ayl,⟨rfl,rfl,rfl,rfl,rfl⟩⟩,trivial⟩,by simp[ids,tags],?_,by simp[ids,aC],by simp[ids,aC,qπ],?_,by simp[tags,aW],?_,rfl,rfl,.inl ⟨by omega,rfl,rfl,rfl⟩⟩
  .simp [qπ];omega
  .intro k h1 h2;simp[qπ]at h1 h2;simp[ids,aC];omega
  .simp [aG,dB,ren,bU,gQ,qπ,aB]
 .rw [decide_eq_false hk]at r8;have hR:∃ code,Try.f29.body.bind (ay [1,1,1,1,0])=some code/\Run X (evT X) 29 mm code (qB n1 m1 []) E1 ⟨.normal,qB n1 m1 [(62,.bool false)],E1⟩ :=
   ⟨_,rfl,Run.block (Run.seq (piece (acG k0 hn2 hm2) _ rfl) (Run.cond (d:=false) (by simp[qB,aJ,aB]) (Run.seq (piece (acH k0 ka hw (by omega) hx hnx) _ rfl) (Run.cond (d:=false) (by simp[qB,aJ,aB]) (Run.seq (piece r8 _ rfl) (Run.cond (d:=false) (by simp[qB,aJ,aB]) ⟨0,rfl⟩)))))) (by simp)⟩
  apply aj.seq (piece hR _ rfl);apply aj.seq (piece (adf k0 ka hw (by omega) (by omega) hN rfl) _ rfl);apply aj.seq (piece (adg k0 ka hw (by omega) (by omega)) _ rfl);have hV2:=hV1.upd (off2:=off+(7+n1)) (N2:=N-(7+n1)) (by rw[hNe];exact k0) hτ (by omega) (by omega);have k2:(AM.upd E1 0 (some (fK m nx (.sl a (off+(7+n1)) (N-(7+n1)) g) τ)))[a]?=some (some ob):=by unfold AM.upd;exact rV ka (ax6 ha0)
  have hl2:(AM.upd E1 0 (some (fK m nx (.sl a (off+(7+n1)) (N-(7+n1)) g) τ))).length=E1.length:=by simp[AM.upd]
  generalize AM.upd E1 0 (some (fK m nx (.sl a (off + (7 + n1)) (N-(7 + n1)) g) τ))=E2 at *;rcases hU (by omega)with⟨rfl,hU2⟩|⟨hm0,hu1,hu2,hQ⟩
  .refine aj.of (o:=⟨.ret,[(2,.sl a (off+7) n1 g),(3,.bool true),(4,.int .i64 0)],E2⟩) ⟨0,?_⟩ ⟨.inr rfl,nx,L,off+(7+n1),some (a,g),_,[],[],.tup [.sl 1 (off+7) n1 0,.bool true,.int .i64 0],rfl,hV2,fun a' g' h=>⟨g',h⟩,trivial,by simp,?_,by simp[ids,aC],by simp[ids,aC,qπ],?_,by simp[tags,aW],?_,rfl,rfl,.inr ⟨by omega,rfl,.inl ⟨rfl,hU2,rfl⟩⟩⟩
   .simp [-getElem?_pos,go_sem,ak]
   .simp [qπ];omega
   .intro k h1 h2;simp[qπ]at h1 h2;omega
   .simp [aG,dB,ren,bU,gQ,qπ,aB]
  .have am3:((m1:Int)==0)=false:=by simpa using hm0
   apply aj.assoc;apply aj.seq (fr':=[(10,.int .i64 (m1:Nat)),(11,.sl a (off+7) n1 g),(89,.bool false)]) (H':=E2)
   .apply Pe;simp[-getElem?_pos,go_sem,hm0,am3]
   apply aj.seq (fr':=[(10,.int .i64 (m1:Nat)),(11,.sl a (off+7) n1 g),(89,.bool false)]) (H':=E2)
   .exact Run.cond (d:=false) (by simp[aJ,aB]) ⟨0,rfl⟩
   obtain⟨v,R,u1,u2,u3⟩:=aag (F:=600000) (mo:=(m1:Nat)) (EP (n:=n1) (off:=off+7) k2 hw (by omega)) (by simp;omega) (by omega) (by simp;omega) (by omega) hQ;rw[hu1]at u1 u2;rcases u2 with⟨o',g',τ',ob',hτ',rfl,ho',hw'⟩|⟨h1,_⟩
   .have hpg:vM E2 (.sl a (off+7) n1 g)=τ2:=by simp[vM,live,k2,hw.g,hw.tg]
    rw[hpg]at hτ';have ho2:E2.length<=o':=u3 o' (by simp[ids]);have hV3:QV m 2 (E2++R) 0 (some (a,g)) nx L (off+(7+n1)):=hV2.cat;generalize E2++R=E3 at *;simp only at u1 ho' hw';rw[hu2]at u1;apply aj.seq (fr':=[(10,.int .i64 (m1:Nat)),(12,.sl o' 0 m1 g'),(13,.int .i64 0)]) (H':=E3)
    .apply Pe;simp[-getElem?_pos,go_sem,u1,ak]
    have hg':=hw'.g;apply aj.seq (fr':=[(12,.sl o' 0 m1 g'),(100,.bool false)]) (H':=E3)
    .apply Pe;simp[-getElem?_pos,go_sem,ho',hg']
    refine aj.of (o:=⟨.ret,[(2,.sl o' 0 m1 g'),(3,.bool true),(4,.int .i64 0)],E3⟩) ⟨0,?_⟩ ⟨.inr rfl,nx,L,off+(7+n1),some (a,g),_,[(o',g')],[.pb told],.tup [.sl 2 0 told.length 0,.bool true,.int .i64 0],rfl,hV3,fun a' g' h=>⟨g',h⟩,⟨⟨τ',ob',?_,ho',hw'⟩,trivial⟩,by simp[ids,tags],?_,by simp[ids,aC],by simp[ids,aC,qπ],?_,by simp[tags,aW],?_,rfl,rfl,.inr ⟨by omega,rfl,.inr ⟨rfl,rfl⟩⟩⟩
    .simp [-getElem?_pos,go_sem,ak]
    .rcases hτ' with h|h
     .exact .inl h
     .rw [h];exact hτ2
    .simp [qπ];omega
    .intro k h1 h2;simp[qπ]at h1 h2;simp[ids,aC];omega
    .simp [aG,dB,ren,bU,gQ,qπ,aB,hu2]
   .simp only at h1;rw[h1]at hu2;exact absurd hu2.symm hm0
end
def V4{b:List UInt8}{t:Int}(h1:iw b 1 0 []=.ok 1 1 [])(h2:iw b 2 1 []=.ok t 3 [])(h:t≠2):zu b 0 []:=by
 intro l k1 o1 q;rw[h1]at q;injection q with q1 q2 q3;refine⟨q1.symm,?_⟩;intro t2 k2 o2 q;rw[<- q2,<- q3,h2]at q;injection q with q4 q5 q6;rw[<- q4];exact h
def aaj{b:List UInt8}{l:List Px}(ha:Agr b (Ce l)):zu b 0 []:=by
 unfold Ce at ha;obtain⟨a1,b1,_⟩:=fQ (x:=1) Gd.nil 1;obtain⟨a2,b2,_⟩:=fQ (x:=1) a1 2;obtain⟨a3,b3⟩:=FB l a2;have x2:=Agr.ext b3 (Agr.ext (qY a3).2 ha);exact V4 (qC (o:=[]) Gd.nil (Agr.ext b2 x2)) (qC (o:=[]) a1 x2) (by decide)
def aak(b r:List UInt8):zu (kG b++r) 0 []:=by
 obtain⟨w1,w2,w3⟩:=zA (b:=b);have hag:Agr (kG b++r) (wK b):=⟨by rw[w2];simp[uS];omega,fun i hi=>by
  unfold iU kG;rw[ayq,axQ,axL (by rw[w2]at hi;omega),<- axQ]⟩
 have hs:wK b=dG (dG ⟨8,[1]⟩ (b.length:Nat) 16) (-(b.length:Int)-1) 16:=by unfold wK;rw[f13]
 have hlen:5<=(kG b++r).length:=by simp[uS];omega
 generalize kG b++r=B at *;rw[hs]at hag;obtain⟨a1,b1,_⟩:=fQ (x:=(b.length:Nat)) Gd.one 16;obtain⟨a2,b2,_⟩:=fQ (x:=-(b.length:Int)-1) a1 16;have bits:∀ i,i<8->iU B i=iU [1] i:=(Agr.ext b1 (Agr.ext b2 hag)).at';refine V4 (t:=0) ?_ ?_ (by decide)
 .exact zB (b:=B) (k:=0) (o:=[]) (x:=1) 1 (by omega) (fun i hi=>by
   have:i=0:=by omega
   subst this;rw[bits 0 (by omega)];rfl)
 .exact zB (b:=B) (k:=1) (o:=[]) (x:=0) 2 (by omega) (fun i hi=>by
   have:i=0\/i=1:=by omega
   rcases this with rfl|rfl
   .rw [bits 1 (by omega)];rfl
   .rw [bits 2 (by omega)];rfl)
def V5(b:List UInt8):zu ((jI b).drop 2) 0 []:=by
 have h:(jI b).drop 2=iq b++be4 (adl b):=by unfold jI;simp
 rw[h];unfold iq;split
 .exact aak _ _
 .have hf:(nN (uw b)).1=(Ce (uw b)).o:=by unfold nN;rw[IW];rfl
  rw[hf];exact aaj (Agr.app (RG (uw b)).ok _)
def aal{th:Nat}{p:List UInt8}(hp:p.length<=60000)(h0:p≠[]):OnH (sqP th p).1 p (sqP th p).2:=by
 have:=List.length_pos_iff.2 h0;unfold sqP;split
 .exact .inr ⟨by simp only;omega,V9 (by omega) (by simp only;omega) (by omega),rfl,V5 p⟩
 .exact .inl ⟨rfl,rfl⟩
def frs(m th:Nat):Nat->List UInt8->Nat->List UInt8
 | 0,_,_=>[]
 | f+1,b,s=>if b.length=0 then[]else sqH s (sqP th (b.take m))++frs m th f (b.drop m) ((s+1)%256)
def fsq(m:Nat):Nat->List UInt8->Nat->Nat
 | 0,_,s=>s
 | f+1,b,s=>if b.length=0 then s else fsq m f (b.drop m) ((s+1)%256)
def Wh(m th:Nat):∀ (f:Nat) (b:List UInt8) (s:Nat) (o:List UInt8),sqG m th f b s o=(o++frs m th f b s,fsq m f b s)
 | 0,b,s,o=>by simp[sqG,frs,fsq]
 | f+1,b,s,o=>by
  unfold sqG frs fsq;split
  .simp
  .rw [Wh m th f];simp
def Mc{m th:Nat}(hm:1<=m):∀ (f g:Nat) (b:List UInt8) (s:Nat),b.length<=f->b.length<=g->frs m th f b s=frs m th g b s/\fsq m f b s=fsq m g b s
 | 0,0,_,_,_,_=>⟨rfl,rfl⟩
 | 0,g+1,b,s,h,_=>by unfold frs fsq;rw[if_pos (by omega),if_pos (by omega)];exact⟨rfl,rfl⟩
 | f+1,0,b,s,_,h=>by unfold frs fsq;rw[if_pos (by omega),if_pos (by omega)];exact⟨rfl,rfl⟩
 | f+1,g+1,b,s,h1,h2=>by
  unfold frs fsq;split
  .exact ⟨rfl,rfl⟩
  .obtain ⟨q1,q2⟩:=Mc hm f g (b.drop m) ((s+1)%256) (by rw[axW];omega) (by rw[axW];omega);rw[q1,q2];exact⟨rfl,rfl⟩
def RH{m th:Nat}(hm:1<=m):∀ (f:Nat) (b:List UInt8) (s:Nat),b.length<=f->(frs m th f b s).length<=b.length+7*((b.length+m-1)/m)
 | 0,b,s,h=>by simp[frs]
 | f+1,b,s,h=>by
  unfold frs;split
  .simp
  .have h1:=RI (s:=s) (th:=th) (p:=b.take m);have h2:=RH (th:=th) hm f (b.drop m) ((s+1)%256) (by rw[axW];omega);rw[ayc]at h1;rw[axW]at h2;rw[axR];by_cases hb:m<=b.length
   .have e:(b.length+m-1)/m=(b.length-m+m-1)/m+1:=by rw[show b.length+m-1=(b.length-m+m-1)+m by omega,Nat.add_div_right _ (by omega)]
    omega
   .have e:1<=(b.length+m-1)/m:=(Nat.le_div_iff_mul_le (by omega)).2 (by omega);have e2:b.length-m=0:=by omega
    rw[e2]at h2;have e3:(0+m-1)/m=0:=azy (by omega);rw[e3]at h2;omega
structure Sty (m th:Nat) (r R:List UInt8) (nx:Nat) (p:List UInt8) (fin:Nat):Prop where
 eq:r++R=frs m th p.length p nx
 fn:fsq m p.length p nx=fin
 nx:nx<256
 len:p.length<=6000
def Sty.head{m th nx fin:Nat}{r R p:List UInt8}(h:Sty m th r R nx p fin)(hm:1<=m)(h7:7<=r.length):p≠[]/\leV (r.take 3)=(sqP th (p.take m)).1.length/\leV ((r.drop 4).take 3)=(sqP th (p.take m)).2/\r[3]?=some (UInt8.ofNat nx)/\(sqP th (p.take m)).1.length<=m/\(sqP th (p.take m)).2<=m /\
 (7+(sqP th (p.take m)).1.length<=r.length->OnH ((r.drop 7).take (sqP th (p.take m)).1.length) (p.take m) (sqP th (p.take m)).2/\Sty m th (r.drop (7+(sqP th (p.take m)).1.length)) R ((nx+1)%256) (p.drop m) fin):=by
 obtain⟨heq,hfn,hnx,hlen⟩:=h;have hp:p.length≠0:=by
  intro e;rw[e]at heq;have h0:(r++R).length=0:=by rw[heq];rfl
  rw[axR]at h0;omega
 obtain⟨f,hf⟩:∃ f,p.length=f+1:=⟨p.length-1,by omega⟩;rw[hf]at heq hfn;unfold frs at heq;unfold fsq at hfn;rw[if_neg hp]at heq hfn;have hne:p.take m≠[]:=by
  intro e;have h0:(p.take m).length=0:=by rw[e];rfl
  rw[ayc]at h0;omega
 have hpl:(p.take m).length<=m:=by rw[ayc];omega
 have hpl2:(p.take m).length<=6000:=by rw[ayc];omega
 obtain⟨q1,q2⟩:=JX (th:=th) (p:=p.take m);have hon:=aal (th:=th) (p:=p.take m) (by omega) hne;obtain⟨g1,g2⟩:=Mc (th:=th) hm f (p.drop m).length (p.drop m) ((nx+1)%256) (by rw[axW];omega) (axO _);rw[g1]at heq;rw[g2]at hfn;generalize hW:frs m th (p.drop m).length (p.drop m) ((nx + 1) % 256)=W at *;generalize sqP th (p.take m)=x at *;obtain⟨xb,xn⟩:=x;simp only at *;unfold sqH at heq;simp only at heq;have a1:=kU 3 xb.length;have a2:=kU 3 xn;have t1:r.take 3=leB 3 xb.length:=by rw[<- azx (l₂:=R) (by omega),heq];simp[List.take_append,a1]
 have d4:r.drop 4++R=leB 3 xn++(xb++W):=by rw[<- azw (by omega),heq];simp[List.drop_append,a1]
 have t2:(r.drop 4).take 3=leB 3 xn:=by rw[<- azx (l₂:=R) (by rw[axW];omega),d4];simp[List.take_append,a2]
 have t3:r[3]?=some (UInt8.ofNat nx):=by rw[<- axL (l₂:=R) (by omega),heq];simp[List.getElem?_append,a1]
 have d7:r.drop 7++R=xb++W:=by
  have:r.drop 7=(r.drop 4).drop 3:=by rw[azc]
  rw[this,<- azw (by rw[axW];omega),d4];simp[List.drop_append,a2]
 have l1:leV (leB 3 xb.length)=xb.length:=by rw[ER,ayN (by omega)]
 have l2:leV (leB 3 xn)=xn:=by rw[ER,ayN (by omega)]
 refine⟨fun e=>hp (by rw[e];rfl),by rw[t1,l1],by rw[t2,l2],t3,by omega,by omega,fun hw=>?_⟩;have t4:(r.drop 7).take xb.length=xb:=by rw[<- azx (l₂:=R) (by rw[axW];omega),d7];simp
 have t5:r.drop (7+xb.length)++R=W:=by rw[<- azc,<- azw (by rw[axW];omega),d7];simp
 rw[t4];exact⟨hon,t5.trans hW.symm,hfn,azS _ (by omega),by rw[axW];omega⟩
def Nw(m th:Nat)(r p:List UInt8):Prop:=r.length<7\/r.length<7+(sqP th (p.take m)).1.length
def Nw.few{m th nx fin:Nat}{r R p:List UInt8}(hm:1<=m)(hS:Sty m th r R nx p fin)(h:Nw m th r p):r.length<=m+6:=by
 by_cases h7:7<=r.length
 .have:=(hS.head hm h7).2.2.2.2.1;rcases h with h|h<;>omega
 .omega
def Nw.done{m th nx fin:Nat}{r p:List UInt8}(hm:1<=m)(hS:Sty m th r [] nx p fin)(h:Nw m th r p):p=[]/\r=[]/\nx=fin:=by
 have heq:=hS.eq;have hfn:=hS.fn;rw[ax1]at heq;by_cases hp:p.length=0
 .rw [hp]at heq hfn;exact⟨ayk hp,heq,hfn⟩
 .exfalso;obtain⟨f,hf⟩:∃ f,p.length=f+1:=⟨p.length-1,by omega⟩;rw[hf]at heq;unfold frs at heq;rw[if_neg hp]at heq;have hl:=congrArg List.length heq;unfold sqH at hl;simp only[axR,kU,axY,ax3]at hl;rcases h with h|h<;>omega
def TlV(H:AM.Heap)(v:AV)(l:List UInt8):Prop:=∃ x o2 g ob τ B,v=.sl x o2 l.length g/\H[x]?=some (some ob)/\RwT (.pb B) g τ ob/\(B.drop o2).take l.length=l/\o2+l.length<=B.length
def TlV.src{H:AM.Heap}{v:AV}{l:List UInt8}(h:TlV H v l):gJ H v=some (.pb l,0):=by
 obtain⟨x,o2,g,ob,τ,B,rfl,h1,h2,h3,h4⟩:=h;have q1:=h2.p;have q2:=h2.g;have q4:=h2.ids;simp[gJ,live,h1,q1,q2,q4,gq,kH,jq,h3,h4]
section
variable {m nx n1 m1 off t o mm:Nat}{H E:AM.Heap}{L told:List UInt8}{oa oa1:Option (Nat×Nat)}
def adh(h:QV m t H o oa nx L off)(hm:m<=100000)(hnx:nx<256)(h7:7<=L.length-off)(hL:L.length<=60000)(hn:leV ((L.drop off).take 3)=n1)(hm1:leV (((L.drop off).drop 4).take 3)=m1)(hn2:n1<=m)(hm2:m1<=m)(hx:L[off+3]?=some (UInt8.ofNat nx))(hU:7+n1<=L.length-off->OnH ((L.drop (off+7)).take n1) told m1) :
 ∃ H' oa' off' v w,evT X 29 [.ptr o 0 0 0] H=some (.tup [v,.bool w,.int .i64 0],H')/\QV m t H' o oa' nx L off'/\KpQ H H' o oa oa'/\(∃ x y z g,v=.sl x y z g)/\((w=false/\L.length-off<7+n1/\off'=off)\/(w=true/\7+n1<=L.length-off/\off'=off+(7+n1)/\TlV H' v told)):=by
 obtain⟨code,hc⟩:∃ code,Try.f29.body=some code:=⟨_,rfl⟩;obtain⟨H',oa',nx',L',off',w0,ex,ps,τf,hE,_,hV,hR,_,_,⟨rfl,rfl,hQ⟩,hK,_⟩:=VX (f:=29) (n:=2) (xs:=[]) (ys:=[]) (Q:=fun nx' L' off' w0 ps=>nx'=nx/\L'=L/\OnQ L told off n1 off' w0 ps) Try.func29 hc rfl h (fun K=>gG.nil) rfl rfl (by simp[dA]) (by
  intro mm E oa1 _ _ _ hE;obtain⟨nM,hc2,ht⟩:=V3 (mm:=mm) hE hm hnx h7 hL hn hm1 hn2 hm2 hx hU;refine⟨nM,hc2,?_⟩;rw[afE];exact ht)
 have hoa:∃ a g,oa'=some (a,g):=by
  cases oa' with
  | some y=>exact⟨y.1,y.2,rfl⟩
  | none=>
   obtain⟨h1,_⟩:=hV.nil rfl;rw[h1]at h7;simp at h7
 obtain⟨a,g,rfl⟩:=hoa;have hxl:=hR.len;rcases hQ with⟨q1,rfl,rfl,rfl⟩|⟨q1,rfl,⟨rfl,q2,rfl⟩|⟨rfl,rfl⟩⟩
 .match ex,hxl,hR with
  | [(x,g2)],_,hR=>
   refine⟨H',_,_,.sl x 0 0 g2,false,?_,hV,hK,⟨_,_,_,_,rfl⟩,.inl ⟨rfl,q1,rfl⟩⟩;simpa[ren,bU,gQ,qπ]using hE
 .match ex,hxl with
  | [],_=>
   obtain⟨⟨v,τ,_,_,hof,_,τ2,ob,_,h2,h3⟩,_⟩:=id hV;have hl:told.length=n1:=by rw[q2,ayc,axW];omega
   refine⟨H',_,_,.sl a (off+7) n1 g,true,?_,hV,hK,⟨_,_,_,_,rfl⟩,.inr ⟨rfl,q1,rfl,a,off+7,g,ob,τ2,L',by rw[hl],h2,h3,by rw[hl,q2],by rw[hl];omega⟩⟩;simpa[ren,bU,gQ,qπ]using hE
 .match ex,hxl,hR with
  | [(x,g2)],_,hR=>
   obtain⟨⟨τ4,ob,h4,h5,h6⟩,_⟩:=hR;refine⟨H',_,_,.sl x 0 told.length g2,true,?_,hV,hK,⟨_,_,_,_,rfl⟩,.inr ⟨rfl,q1,rfl,x,0,g2,ob,τ4,told,rfl,h5,h6,by simp,by omega⟩⟩;simpa[ren,bU,gQ,qπ]using hE
def QV.app{c:Nat}{b:List UInt8}{v:AV}{τ:Nat}(h:QV m 3 E 0 oa nx L off)(h0:E[0]?=some (some (fK m nx v τ)))(hτ:τ=0\/τ=3)(hb:L.length+b.length<=900000):∃ v' E' a g,bG X E 22 v (.ro c (.pb b) 2)=some (v',E')/\E'[0]?=E[0]?/\QV m 3 (AM.upd E' 0 (some (fK m nx v' τ))) 0 (some (a,g)) nx (L.drop off++b) 0/\E.length<=E'.length/\(∀ a' g',oa=some (a',g')->a=a')/\(∃ x y z w,v'=.sl x y z w):=by
 obtain⟨⟨v2,τ2,_,h02,hs⟩,hne⟩:=id h;have hlt:=eX h0;rw[h0]at h02;have hv:v=v2:=by simp only[fK,axH,AM.Obj.mk.injEq,AV.pc.injEq,ay3]at h02;exact h02.1.2.2.1
 subst hv;have hsrc:gJ E (.ro c (.pb b) 2)=some (.pb b,0):=by simp[gJ,jq,kH]
 cases oa with
 | none=>
  obtain⟨rfl,rfl,τ3,_,rfl⟩:=hs;have hroom:dQ X 5 b.length=true:=by simp[dQ];simp at hb;omega
  refine⟨.sl E.length 0 b.length 0,E++[some ⟨.pb b,0,.none,0,true,false,0⟩],E.length,0,?_,axL hlt,⟨⟨_,τ,hτ,by unfold AM.upd;exact setAt (axL hlt ▸ h0:(E++_)[0]?=_),ayF _,by simp,0,⟨.pb b,0,.none,0,true,false,0⟩,.inl rfl,by unfold AM.upd;exact rV ayl (by omega),⟨rfl,rfl,rfl,rfl,rfl⟩⟩,fun a g h=>by cases h;omega⟩,by simp,fun a' g' h=>(by cases h),⟨_,_,_,_,rfl⟩⟩;simp only[bG,lM,nO,vN,hsrc];simp[jq,ah,hroom,l9,dh,aS]
 | some y=>
  obtain⟨a,g⟩:=y;obtain⟨hof,rfl,τ3,ob,hτ3,ha,hw⟩:=hs;obtain⟨ob',w1,w2⟩:=JY (C:=X) (T:=22) (e:=5) (src:=.ro c (.pb b) 2) lM Ai nO bytes5 vN ha hw hof (.inl hsrc) (by omega);rw[axW]at w2;have ha0:=hne a g rfl;have k0:(AM.upd E a (some ob'))[0]?=E[0]?:=by unfold AM.upd;rw[axU ha0]
  refine⟨_,_,a,g+1,w2,k0,⟨⟨_,τ,hτ,by unfold AM.upd at k0 ⊢;exact setAt (k0.trans h0),ayF _,by simp[axR,axW],τ3,ob',hτ3,?_,w1⟩,fun a' g' h=>by cases h;exact ha0⟩,by simp[AM.upd],fun a' g' h=>(by cases h;rfl),⟨_,_,_,_,rfl⟩⟩;unfold AM.upd;exact rV (setAt ha) (ax6 ha0)
end
section
variable {m th nx off c mm O N go a g:Nat}{E E1:AM.Heap}{L b R p acc:List UInt8}{oa:Option (Nat×Nat)}{fin:Nat}
def kJ(O N go:Nat)(tl:AM.Frame):AM.Frame:=[(0,.ptr 0 0 0 0),(6,.sl O 0 N go)]++tl
def afF{v:AV}{τ:Nat}(hn:evT X 28 [.ptr 0 0 0 0] E=some (.bool false,E1))(h0:E1[0]?=some (some (fK m nx v τ))):∃ code,Try.f15.body.bind (ay [1,0])=some code/\Run X (evT X) 15 mm code [(0,.ptr 0 0 0 0),(1,.ro c (.pb b) 2)] E ⟨.normal,[(0,.ptr 0 0 0 0),(1,.ro c (.pb b) 2),(13,.bool false)],E1⟩:=by
 refine⟨_,rfl,?_⟩;simp only[fK]at h0;apply Pe;simp[-getElem?_pos,go_sem,hn,h0]
def afG{v v':AV}{τ:Nat}(h0:E[0]?=some (some (fK m nx v τ)))(hA:bG X E 22 v (.ro c (.pb b) 2)=some (v',E1))(h1:E1[0]?=E[0]?)(hv:∃ x y z w,v'=.sl x y z w):∃ code,Try.f15.body.bind (ay [1,1,0])=some code/\Run X (evT X) 15 mm code [(0,.ptr 0 0 0 0),(1,.ro c (.pb b) 2),(13,.bool false)] E ⟨.normal,[(0,.ptr 0 0 0 0)],AM.upd E1 0 (some (fK m nx v' τ))⟩:=by
 refine⟨_,rfl,?_⟩;rw[h0]at h1;obtain⟨x,y,z,w,rfl⟩:=hv;simp only[fK]at h0 h1 ⊢;apply Pe;simp[-getElem?_pos,go_sem,h0,h1,hA]
def afH(h:QV m 3 E 0 (some (a,g)) nx L off):∃ code,Try.f15.body.bind (ay [1,1,1,1,0,0,0,0,0])=some code/\Run X (evT X) 15 mm code (kJ O N go []) E ⟨.normal,kJ O N go [(33,.bool (decide (7<=L.length-off)))],E⟩:=by
 refine⟨_,rfl,?_⟩;obtain⟨⟨v,τ,_,h0,_,rfl,τ2,ob,_,h2,h3⟩,_⟩:=id h;have hg:=h3.g;simp only[fK]at h0;unfold kJ;generalize L.length-off=M at *;by_cases hk:7<=M
 .have hkI:(7:Int)<=(M:Int):=by omega
  rw[decide_eq_true hk];apply Pe;simp[-getElem?_pos,go_sem,h0,h2,hg,hk,hkI]
 .have hkI:¬ (7:Int)<=(M:Int):=by omega
  rw[decide_eq_false hk];apply Pe;simp[-getElem?_pos,go_sem,h0,h2,hg,hk,hkI]
def acI{v:AV}{w:Bool}(hv:∃ x y z u,v=.sl x y z u)(he:evT X 29 [.ptr 0 0 0 0] E=some (.tup [v,.bool w,.int .i64 0],E1)):∃ code,Try.f15.body.bind (ay [1,1,1,1,0,0,0,1,0,0])=some code/\Run X (evT X) 15 mm code (kJ O N go [(33,.bool true)]) E ⟨.normal,kJ O N go [(7,v),(8,.bool w),(9,.int .i64 0)],E1⟩:=by
 refine⟨_,rfl,?_⟩;obtain⟨x,y,z,u,rfl⟩:=hv;unfold kJ;apply Pe;simp[-getElem?_pos,go_sem,he,ak]
def adi{v:AV}{τ:Nat}(h0:E[0]?=some (some (fK m nx v τ)))(hnx:nx<256):∃ code,Try.f15.body.bind (ay [1,1,1,1,0,0,0,1,0,1,1,1,1])=some code/\Run X (evT X) 15 mm code (kJ O N go []) E ⟨.normal,kJ O N go [],AM.upd E 0 (some (fK m ((nx+1)%256) v τ))⟩:=by
 refine⟨_,rfl,?_⟩;have w:IntKind.u8.wrap ((nx:Int)+1)=(((nx+1)%256:Nat):Int):=by
  by_cases h:nx=255
  .subst h;rfl
  .rw [ayN (by omega),wrap_u8 (by omega) (by omega)];omega
 unfold kJ;simp only[fK]at h0 ⊢;generalize (nx + 1) % 256=k at *;apply Pe;simp[-getElem?_pos,go_sem,h0,w]
def acJ{v:AV}{w:Bool}(hv:∃ x y z u,v=.sl x y z u):∃ code,Try.f15.body.bind (ay [1,1,1,1,0,0,0,1,0,1,0,0])=some code/\Run X (evT X) 15 mm code (kJ O N go [(7,v),(8,.bool w),(9,.int .i64 0)]) E ⟨.normal,kJ O N go [(7,v),(8,.bool w),(9,.int .i64 0),(41,.bool false)],E⟩:=by
 refine⟨_,rfl,?_⟩;unfold kJ;apply Pe;simp[-getElem?_pos,go_sem]
def Wi{v:AV}{w:Bool}:∃ code,Try.f15.body.bind (ay [1,1,1,1,0,0,0,1,0,1,1,0,0])=some code/\Run X (evT X) 15 mm code (kJ O N go [(7,v),(8,.bool w),(9,.int .i64 0),(41,.bool false)]) E ⟨.normal,kJ O N go [(7,v),(52,.bool (!w))],E⟩:=by
 refine⟨_,rfl,?_⟩;unfold kJ;apply Pe;simp[-getElem?_pos,go_sem,unV]
def adk{v:AV}{x y z:Nat}(hA:bG X E 22 (.sl O 0 N go) v=some (.sl x 0 y z,E1)):∃ code,Try.f15.body.bind (ay [1,1,1,1,0,0,0,1,0,1,1,1,0])=some code/\Run X (evT X) 15 mm code (kJ O N go [(7,v),(52,.bool false)]) E ⟨.normal,kJ x y z [],E1⟩:=by
 refine⟨_,rfl,?_⟩;unfold kJ;apply Pe;simp[-getElem?_pos,go_sem,hA,ak]
def QV.nxt{v:AV}{τ k:Nat}(h:QV m 3 E 0 oa nx L off)(h0:E[0]?=some (some (fK m nx v τ)))(hτ:τ=0\/τ=3):QV m 3 (AM.upd E 0 (some (fK m k v τ))) 0 oa k L off:=by
 obtain⟨⟨v2,τ2,_,h02,hs⟩,hne⟩:=id h;rw[h0]at h02;have hv:v=v2:=by simp only[fK,axH,AM.Obj.mk.injEq,AV.pc.injEq,ay3]at h02;exact h02.1.2.2.1
 subst hv;refine⟨⟨_,τ,hτ,by unfold AM.upd;exact setAt h0,?_⟩,hne⟩;cases oa with
 | none=>exact hs
 | some y=>
  obtain⟨q1,q2,τ3,ob,q3,q4,q5⟩:=hs;exact⟨q1,q2,τ3,ob,q3,by unfold AM.upd;exact rV q4 (ax6 (hne _ _ rfl)),q5⟩
def QV.other{t o:Nat}{x:Option AM.Obj}{j:Nat}(h:QV m t E o oa nx L off)(h0:j≠o)(h1:∀ a g,oa=some (a,g)->j≠a):QV m t (AM.upd E j x) o oa nx L off:=by
 obtain⟨⟨v2,τ2,hτ,h02,hs⟩,hne⟩:=h;refine⟨⟨_,_,hτ,by unfold AM.upd;exact rV h02 h0,?_⟩,hne⟩;cases oa with
 | none=>exact hs
 | some y=>
  obtain⟨q1,q2,τ3,ob,q3,q4,q5⟩:=hs;exact⟨q1,q2,τ3,ob,q3,by unfold AM.upd;exact rV q4 (h1 _ _ rfl),q5⟩
structure FqI (m th:Nat) (R P:List UInt8) (fin O:Nat) (E:AM.Heap) (go nx:Nat) (L:List UInt8) (off a g:Nat) (acc p:List UInt8):Prop where
 q:QV m 3 E 0 (some (a,g)) nx L off
 o:∃ τ ob,(τ=0\/τ=3)/\E[O]?=some (some ob)/\RwT (.pb acc) go τ ob
 o0:O≠0
 oa:O≠a
 s:Sty m th (L.drop off) R nx p fin
 p:P=acc++p
 l:L.length<=60000
 al:P.length<=6000
def aam{P:List UInt8}(hm:1<=m)(hm2:m<=100000)(h:FqI m th R P fin O E go nx L off a g acc p):∃ code,Try.f15.body.bind (ay [1,1,1,1,0])=some code /\
 aj (Goes fun fr E'=>∃ go' nx' L' off' g' acc' p' tl,fr=kJ O acc'.length go' tl/\FqI m th R P fin O E' go' nx' L' off' a g' acc' p'/\Nw m th (L'.drop off') p') X (evT X) 15 mm code (kJ O acc.length go []) E:=by
 refine⟨_,rfl,?_⟩;refine aj.block (P:=fun fr E'=>∃ go' nx' L' off' g' acc' p' tl,fr=kJ O acc'.length go' tl/\FqI m th R P fin O E' go' nx' L' off' a g' acc' p'/\Nw m th (L'.drop off') p') ?_;refine aj.jP (fun k fr E'=>∃ go nx L off g acc p,k=p.length/\fr=kJ O acc.length go []/\FqI m th R P fin O E' go nx L off a g acc p) ?_ (k:=p.length) ⟨go,nx,L,off,g,acc,p,rfl,rfl,h⟩;rintro k fr E ⟨go,nx,L,off,g,acc,p,rfl,rfl,hI⟩;have hoL:=hI.q.le;have h7:=afH (mm:=mm) (O:=O) (N:=acc.length) (go:=go) hI.q;by_cases hk:7<=L.length-off
 .rw [decide_eq_true hk]at h7;apply aj.assoc;apply aj.seq (piece h7 _ rfl);apply aj.seq (fr':=kJ O acc.length go [(33,.bool true)]) (H':=E)
  .exact Run.cond (d:=true) (by simp[kJ,aJ,aB]) ⟨0,rfl⟩
  obtain⟨hp0,k1,k2,k3,k4,k5,k6⟩:=hI.s.head hm (by rw[axW];exact hk);rw[ayT]at k3;have hnx:=hI.s.nx;obtain⟨E1,oa1,off1,v,w,e1,e2,e3,e4,e5⟩:=adh (told:=p.take m) hI.q hm2 hnx hk hI.l k1 k2 k4 k5 k3 (fun hw=>by
   have:=(k6 (by rw[axW];exact hw)).1
   rwa [azc]at this)
  obtain⟨g1,rfl⟩:=e3.same a g rfl;obtain⟨τo,ob,hτo,ho,hwo⟩:=hI.o;have hoE:E1[O]?=some (some ob):=by rw[e3.rest O (eX ho) hI.o0 (fun a' g' h=>by cases h;exact hI.oa)];exact ho
  have hpl:=hI.s.len;have hPl:P.length=acc.length+p.length:=by rw[hI.p,axR]
  have hal:=hI.al;rcases e5 with⟨rfl,e5,rfl⟩|⟨rfl,e5,rfl,e6⟩
  .refine aj.of (o:=⟨.exit 1,kJ O acc.length go [(7,v),(52,.bool true)],E1⟩) ?_ (.inr ⟨by simp,rfl,go,nx,L,off1,g1,acc,p,_,rfl,⟨e2,⟨τo,ob,hτo,hoE,hwo⟩,hI.o0,hI.oa,hI.s,hI.p,hI.l,hI.al⟩,.inr (by rw[axW];exact e5)⟩);refine Run.block (Run.seq (piece (acI e4 e1) _ rfl) (Run.seq (Run.seq (piece (acJ e4) _ rfl) (Run.cond (d:=false) (by simp[kJ,aJ,aB]) ⟨0,rfl⟩)) (Run.bK (Run.seq (piece Wi _ rfl) (Run.cond (d:=true) (by simp[kJ,aJ,aB]) ⟨0,rfl⟩)) (by simp)))) (by simp)
  .obtain ⟨ob',w1,w2⟩:=Aj (C:=X) (T:=22) (e:=5) lM Ai nO bytes5 vN hoE hwo (.inl e6.src) (by rw[ayc];omega);have hst:=(k6 (by rw[axW];exact e5)).2;rw[azc]at hst;have e7:=e2.other (x:=some ob') (j:=O) hI.o0 (fun a' g' h=>by cases h;exact hI.oa);obtain⟨⟨v2,τ2,hτ2,q2,_⟩,_⟩:=id e7;have hO2:(AM.upd E1 O (some ob'))[O]?=some (some ob'):=by unfold AM.upd;exact setAt hoE
   rw[<- axR]at w2;generalize AM.upd E1 O (some ob')=E2 at *;have e8:=e7.nxt (k:=(nx+1)%256) q2 hτ2;have htk:(p.take m).length<=p.length:=by rw[ayc];omega
   refine aj.of (o:=⟨.normal,kJ O (acc++p.take m).length (go+1) [],AM.upd E2 0 (some (fK m ((nx+1)%256) v2 τ2))⟩) ?_ (.inl ⟨rfl,(p.drop m).length,by rw[axW];have:=List.length_pos_iff.2 hp0;omega,go+1,(nx+1)%256,L,off+(7+(sqP th (p.take m)).1.length),g1,acc++p.take m,p.drop m,rfl,rfl,⟨e8,⟨τo,ob',hτo,by unfold AM.upd;exact rV hO2 (ax6 hI.o0),w1⟩,hI.o0,hI.oa,hst,by rw[ayq,azq];exact hI.p,hI.l,hal⟩⟩);refine Run.block (Run.seq (piece (acI e4 e1) _ rfl) (Run.seq (Run.seq (piece (acJ e4) _ rfl) (Run.cond (d:=false) (by simp[kJ,aJ,aB]) ⟨0,rfl⟩)) (Run.seq (Run.seq (piece Wi _ rfl) (Run.cond (d:=false) (by simp[kJ,aJ,aB]) ⟨0,rfl⟩)) (Run.seq (piece (adk w2) _ rfl) (piece (adi q2 hnx) _ rfl))))) (by simp)
 .rw [decide_eq_false hk]at h7;refine aj.of (o:=⟨.exit 1,kJ O acc.length go [(33,.bool false)],E⟩) ?_ (.inr ⟨by simp,rfl,go,nx,L,off,g,acc,p,_,rfl,hI,.inl (by rw[axW];omega)⟩);refine Run.bK (Run.seq (piece h7 _ rfl) (Run.cond (d:=false) (by simp[kJ,aJ,aB]) ⟨0,rfl⟩)) (by simp)
end
section
variable {m th nx off c mm o t:Nat}{H E:AM.Heap}{L b R p:List UInt8}{oa oa1:Option (Nat×Nat)}{fin:Nat}
def FdQ(m th:Nat)(R p:List UInt8)(fin:Nat)(nx':Nat)(L':List UInt8)(off':Nat)(w0:AV)(ps:List AV):Prop:=∃ told p',p=told++p'/\Sty m th (L'.drop off') R nx' p' fin/\Nw m th (L'.drop off') p'/\ps=[.pb told]/\w0=.tup [.sl 2 0 told.length 0,.int .i64 0]
def IX{m th f s:Nat}{b:List UInt8}(hm:1<=m)(h:b.length<=f)(hb:b.length<=6000):(frs m th f b s).length<=48000:=by
 have:=RH (th:=th) hm f b s h;have h2:(b.length+m-1)/m<=b.length+m-1:=az5 _ _;have h3:(b.length+m-1)/m<=b.length:=by
  refine Nat.le_of_lt_succ ((Nat.div_lt_iff_lt_mul (by omega)).2 ?_);have:=Nat.mul_le_mul_left (b.length+1) hm;have e:(b.length+1)*m=b.length*m+m:=by rw[ayI,Nat.one_mul]
  have:=Nat.mul_le_mul_left b.length hm;show b.length+m-1<(b.length+1)*m;omega
 omega
def Wj(h:QV m 3 E 0 oa1 nx L off)(hm:1<=m)(hm2:m<=100000)(hS:Sty m th (L.drop off++b) R nx p fin)(hL:L.length<=60000) :
 ∃ code,Try.f15.body=some code/\aj (jO fun fr E'=>∃ nx' L' off' oa' l ex ps w0,aT X fr E' Try.f15.results.toList=some l/\QV m 3 E' 0 oa' nx' L' off'/\(∀ a g,oa1=some (a,g)->∃ g',oa'=some (a,g')) /\
  eG 3 E' ex ps/\(∀ p∈ps,ids p=[]/\tags p=[])/\((qπ 0 oa'++ex).map Prod.fst).Nodup/\(ids w0).length<=1000/\(∀ k∈ids w0,k<(qπ 0 oa'++ex).length)/\(∀ k,(qπ 0 oa').length<=k->k<(qπ 0 oa'++ex).length->k∈ids w0)/\(∀ k∈tags w0,k=0\/k=3)/\aG l=ren (gQ (qπ 0 oa'++ex)) (fun t=>t) w0/\L'.length<=60000/\FdQ m th R p fin nx' L' off' w0 ps)
  X (evT X) 15 mm code [(0,.ptr 0 0 0 0),(1,.ro c (.pb b) 2)] E:=by
 refine⟨_,rfl,?_⟩;have hbl:(L.drop off++b).length<=48000:=by have:=IX (m:=m) (th:=th) (f:=p.length) (s:=nx) (b:=p) hm (axO _) hS.len;rw[<- hS.eq,axR]at this;omega
 have hV1:QV m 3 (E++[jA]) 0 oa1 nx L off:=h.cat;apply aj.seq (fr':=[(0,.ptr 0 0 0 0),(1,.ro c (.pb b) 2)]) (H':=E++[jA])
 .apply Pe;simp[-getElem?_pos,go_sem,ak,rowOf,emY,jA]
 generalize E++[jA]=E1 at *;obtain⟨E2,oa2,e1,hV2,hk⟩:=VY hV1 (by omega);obtain⟨⟨v,τ,hτ,h0,_⟩,_⟩:=id hV2;apply aj.seq (piece (afF e1 h0) _ rfl);obtain⟨v',E3,a,g,hA,k0,hV3,hle,hsa,hv'⟩:=hV2.app (c:=c) (b:=b) h0 hτ (by rw[axR]at hbl;omega);apply aj.seq (piece (afG h0 hA k0 hv') _ rfl);generalize AM.upd E3 0 (some (fK m nx v' τ))=E4 at *;have hV4:QV m 3 (E4++[jA]) 0 (some (a,g)) nx (L.drop off++b) 0:=hV3.cat;obtain⟨⟨_,_,_,z0,_,_,_,_,_,z1,_⟩,_⟩:=id hV3;have y0:=eX z0;have y1:=eX z1;apply aj.seq (fr':=kJ E4.length 0 0 []) (H':=E4++[jA])
 .unfold kJ;apply Pe;simp[-getElem?_pos,go_sem,ak,rowOf,emY,jA]
 have hI:FqI m th R p fin E4.length (E4++[jA]) 0 nx (L.drop off++b) 0 a g [] p:=⟨hV4,⟨0,_,.inl rfl,ayl,⟨rfl,rfl,rfl,rfl,rfl⟩⟩,by omega,by omega,by rw[ayZ];exact hS,rfl,by omega,hS.len⟩;generalize E4++[jA]=E5 at *;apply aj.andThen (piece (aam hm hm2 hI) _ rfl);rintro fr E' ⟨go',nx',L',off',g',acc',p',tl,rfl,hI',hl'⟩;obtain⟨τo,ob,hτo,ho,hwo⟩:=hI'.o;have q0:=hI'.o0;have q1:=hI'.oa;have q2:=hI'.q.ne _ _ rfl;refine aj.of (o:=⟨.ret,[(4,.sl E4.length 0 acc'.length go'),(5,.int .i64 0)],E'⟩) ⟨0,?_⟩ ⟨.inr rfl,nx',L',off',some (a,g'),_,[(E4.length,go')],[.pb acc'],.tup [.sl 2 0 acc'.length 0,.int .i64 0],rfl,hI'.q,fun a' g2 h=>?_,⟨⟨τo,ob,hτo,ho,hwo⟩,trivial⟩,by simp[ids,tags],?_,by simp[ids,aC],by simp[ids,aC,qπ],?_,by simp[tags,aW],?_,hI'.l,acc',p',hI'.p,hI'.s,hl',rfl,rfl⟩
 .unfold kJ;generalize acc'.length=N at *;simp[-getElem?_pos,go_sem,ak]
 .obtain ⟨g3,h3⟩:=hk.same a' g2 h;exact⟨g',by rw[hsa _ _ h3]⟩
 .simp [qπ];omega
 .intro k h1 h2;simp[qπ]at h1 h2;simp[ids,aC];omega
 .simp [aG,dB,ren,bU,gQ,qπ,aB]
def aan{x:AV}(h:QV m t H o oa nx L off)(hm:1<=m)(hm2:m<=100000)(hx:fJ H x=some (.pb b))(hd:disjoint (slO x) ((qπ o oa).map Prod.fst)=true)(hS:Sty m th (L.drop off++b) R nx p fin)(hL:L.length<=60000) :
 ∃ H' oa' nx' L' off' told p' z g,evT X 15 [.ptr o 0 0 0,x] H=some (.tup [.sl z 0 told.length g,.int .i64 0],H')/\QV m t H' o oa' nx' L' off'/\p=told++p'/\Sty m th (L'.drop off') R nx' p' fin/\Nw m th (L'.drop off') p'/\L'.length<=60000/\KpQ H H' o oa oa' /\
  (∃ τ ob,(τ=0\/τ=t)/\H'[z]?=some (some ob)/\RwT (.pb told) g τ ob)/\H.length<=z/\∀ a g,oa'=some (a,g)->a≠z:=by
 obtain⟨code,hc⟩:∃ code,Try.f15.body=some code:=⟨_,rfl⟩;obtain⟨H',oa',nx',L',off',w0,ex,ps,τf,hE,_,hV,hR,hz,hnd,⟨hL',told,p',q1,q2,q3,rfl,rfl⟩,hK,hlt⟩:=VX (f:=15) (n:=3) (xs:=[x]) (ys:=[.ro (qK H x) (.pb b) 2]) (Q:=fun nx' L' off' w0 ps=>L'.length<=60000/\FdQ m th R p fin nx' L' off' w0 ps) Try.func15 hc rfl h (fun K=>gG.Wn rfl hx rfl hd gG.nil) rfl rfl (by simp[dA]) (by
  intro mm E oa1 _ _ _ hE;obtain⟨nM,hc2,ht⟩:=Wj (mm:=mm) (c:=qK H x) hE hm hm2 hS hL;refine⟨nM,hc2,?_⟩;rw[afI];exact ht)
 have hxl:=hR.len
 match ex,hxl,hR,hz,hnd,hE,hlt with
 | [(z,g)],_,hR,hz,hnd,hE,hlt=>
  obtain⟨⟨τ4,ob,h4,h5,h6⟩,_⟩:=hR;have hz':=hz (z,g) (by simp);have h2:=hlt 2 (by simp[ids,aC]);cases oa' with
  | none=>simp[qπ]at h2
  | some y=>
   refine⟨H',some y,nx',L',off',told,p',z,g,by simpa[ren,bU,gQ,qπ]using hE,hV,q1,q2,q3,hL',hK,⟨τ4,ob,h4,h5,h6⟩,hz',?_⟩;rintro a g' ⟨rfl⟩ rfl;simp[qπ]at hnd
end
end Go.Proofs.Ytbodincpjijdiaa
