/- DD to E5: texts of this claim, one behind the other; what each shows stands at its head. -/
import Derived.Test.YtbodincpjijdiaaAm4
import Derived.Test.YtbodincpjijdiaaMg4
set_option linter.defProp false
set_option linter.unusedSimpArgs false
set_option linter.unusedVariables false
set_option maxRecDepth 100000
set_option maxHeartbeats 8000000
namespace Go.Proofs.Ytbodincpjijdiaa
open Go.AM
def bsN(H:AM.Heap)(x:Int):bT X H 36 1 [(0,.int .i64 x)]=some (.ro 1 (.pi .i64 [x]) 0,H):=by kernel_rfl
def ajg(x y z:UInt8):vU X 94 (.agg (.pb [x,y,z]))=true:=by kernel_rfl
def ac8:bD X (oO X 94)=.ro 0 .pn 0:=by kernel_rfl
def acn{H:AM.Heap}{o g t:Nat}{ob:AM.Obj}{l:List Nat}{y:Nat}(ho:H[o]?=some (some ob))(h:RwT (iH l) g t ob)(hn:l.length<=10000000) :
 ∃ ob',RwT (iH (l++[y])) (g+1) t ob'/\bG X H 36 (.sl o 0 l.length g) (.ro 1 (.pi .i64 [(y:Int)]) 0)=some (.sl o 0 (l.length+1) (g+1),upd H o (some ob')):=by
 have hlive:live H o g=some ob:=by simp[live,ho,h.g]
 have hroom:dQ X 3 (l.length+1)=true:=by simp[dQ];omega
 have hj:dJ t 0=some t:=by
  unfold dJ;by_cases h0:t=0
  .rw [if_pos h0,h0]
  .rw [if_neg h0,if_pos (.inl rfl)]
 have hsrc:gJ H (.ro 1 (.pi .i64 [(y:Int)]) 0)=some (.pi .i64 [(y:Int)],0):=by simp[gJ,jq,kH]
 have hp:ob.p=.pi .i64 (l.map Int.ofNat):=h.p;refine⟨{ ob with p:=iH (l++[y]),g:=g+1,cap:=(match ob.cap with|some c=>if 0+l.length+AM.ah (.pi .i64 [(y:Int)])<=c then some (c-0)else none|none=>none),z:=(if AM.ah ob.p=0 then ob.z else 1),tg:=t },⟨rfl,rfl,h.row,h.ids,rfl⟩,?_⟩;unfold bG;simp only[I7,size3,Uw,hsrc,hlive,h.row,h.ids,hp,h.tg];simp only[show ¬ ((1:Nat)=0\/true=false)by simp,if_false];have hc:True/\True/\0+l.length=AM.ah (.pi .i64 (l.map Int.ofNat))/\aS (.pi .i64 (l.map Int.ofNat))=1/\dQ X 3 (l.length+AM.ah (.pi .i64 [(y:Int)]))=true:=⟨trivial,trivial,by simp[AM.ah],rfl,by simpa[AM.ah]using hroom⟩;rw[if_pos hc];have hs:gq (.pi .i64 (l.map Int.ofNat)) 0 l.length=some (.pi .i64 (l.map Int.ofNat)):=by simp[gq];exact aym (by simp)
 simp only[hs,l9,hj,aS];simp[AM.ah,iH];rfl
def aco(H:AM.Heap)(y:Nat):bG X H 36 (.ro 0 .pn 0) (.ro 1 (.pi .i64 [(y:Int)]) 0)=some (.sl H.length 0 1 0,H++[some ⟨iH [y],0,none,0,true,false,0⟩]):=by
 simp only[bG,I7,size3,Uw];simp[gJ,jq,ah,kH,dQ,l9,dh,aS,iH]
section
variable {c:Nat}{b:List UInt8}{t:Nat}{H:AM.Heap}{ex:List (Nat×Nat)}{M:Pls}
def ajh(i p:Nat):AM.Frame:=[(0,.int .i64 (i:Nat)),(2,.ptr 1 0 0 0),(4,.ptr p 0 0 0)]
def ac9{m i p k:Nat}{v0 v1:AV}{E E1 E2 E3:AM.Heap}{τ:Nat}{key:List UInt8}(h4:E[1]?=some (some (bxN (.map 2 0) τ)))(hp:E[p]?=some (some (keO key)))(hk:key.length=3)
 (hE:uJ X E 94 (.map 2 0) (.agg (.pb key))=some (.tup [v0,.int .i64 (k:Nat)],E1))(hA:bG X E1 36 v0 (.ro 1 (.pi .i64 [(i:Int)]) 0)=some (v1,E2))(hS:iD E2 (.map 2 0) (.int .i64 (k:Nat)) v1=some E3) :
 ∃ code,Try.f59.body.bind (ay [1,0,1])=some code/\Run X (evT X) 59 m code (ajh i p) E ⟨.normal,[],E3⟩:=by
 refine⟨_,rfl,?_⟩;simp only[bxN]at h4;simp only[keO]at hp;simp only[ajh];apply Pe;simp[-getElem?_pos,go_sem,h4,hp,hk,hE,hA,hS,bsN]
def NtV.keep{H':AM.Heap}{o1 o4 om:Nat}(h:NtV c b t H o1 o4 om ex M)(k1:H'[o1]?=H[o1]?)(k4:H'[o4]?=H[o4]?)(km:H'[om]?=H[om]?)(kr:∀ x∈ex,H'[x.1]?=H[x.1]?):NtV c b t H' o1 o4 om ex M:=by
 obtain⟨τ1,τ,a1,a2,h1⟩:=h.bx;obtain⟨τ2,b2,h2⟩:=h.mb;obtain⟨τ3,b3,h3⟩:=h.mp;exact⟨⟨τ1,τ,a1,a2,by rw[k1];exact h1⟩,⟨τ2,b2,by rw[k4];exact h2⟩,⟨τ3,b3,by rw[km];exact h3⟩,h.rows.keep kr,h.nd⟩
def NtV.lt{o1 o4 om:Nat}(h:NtV c b t H o1 o4 om ex M):o1<H.length/\o4<H.length/\om<H.length/\∀ x∈ex,x.1<H.length:=by
 obtain⟨τ1,τ,a1,a2,h1⟩:=h.bx;obtain⟨τ2,b2,h2⟩:=h.mb;obtain⟨τ3,b3,h3⟩:=h.mp;exact⟨eX h1,eX h2,eX h3,h.rows.lt⟩
def NtV.cat{o1 o4 om:Nat}(r:AM.Heap)(h:NtV c b t H o1 o4 om ex M):NtV c b t (H++r) o1 o4 om ex M:=by
 obtain⟨l1,l2,l3,l4⟩:=h.lt;exact h.keep (axL l1) (axL l2) (axL l3) fun x hx=>axL (l4 x hx)
def Uk{M:Pls}{k:List UInt8}{i j:Nat}{l:List Nat}(h:zC k M 0=some j)(hl:M[j]?=some (k,l)):ntM M k i=M.set j (k,l++[i]):=by
 unfold ntM;rw[h];simp only;rw[axQ,hl];rfl
def Ul{M:Pls}{k:List UInt8}{i:Nat}(h:zC k M 0=none):ntM M k i=M++[(k,[i])]:=by
 unfold ntM;rw[h]
def eG.setAt{ps:List AV}{j o g τ:Nat}{p:AV}{ob:AM.Obj}{H':AM.Heap}(h:eG t H ex ps)(hn:(ex.map Prod.fst).Nodup)(hj:∃ g0,ex[j]?=some (o,g0))(hk:∀ x∈ex,x.1≠o->H'[x.1]?=H[x.1]?)(ho:H'[o]?=some (some ob))(hτ:τ=0\/τ=t)(hw:RwT p g τ ob):eG t H' (ex.set j (o,g)) (ps.set j p):=by
 obtain⟨g0,hj⟩:=hj;have hjl:=eX hj;refine eG.of (by simpa using h.len) ?_;intro k q hq;by_cases hkj:j=k
 .subst hkj;rw[azk]at hq;simp only[if_true]at hq;split at hq
  .cases hq;exact⟨o,g,τ,ob,by rw[ayx hjl],hτ,ho,hw⟩
  .cases hq
 .rw [axU hkj]at hq;obtain⟨o2,g2,τ2,ob2,h1,h2,h3,h4⟩:=h.at' k q hq;refine⟨o2,g2,τ2,ob2,by rw[axU hkj];exact h1,h2,?_,h4⟩;have hne:o2≠o:=by intro e;subst e;have e1:=Img.uQ h1;have e2:=Img.uQ hj;obtain⟨l1,e1⟩:=axK.1 e1;obtain⟨l2,e2⟩:=axK.1 e2;exact hkj ((azn hn).1 (e2.trans e1.symm))
  rw[hk (o2,g2) (axT h1) hne];exact h3
def eG.app:∀ {ex:List (Nat×Nat)} {ps:List AV} {o g τ:Nat} {p:AV} {ob:AM.Obj},eG t H ex ps->(τ=0\/τ=t)->H[o]?=some (some ob)->RwT p g τ ob->eG t H (ex++[(o,g)]) (ps++[p])
 | [],[],_,_,τ,_,ob,_,hτ,ho,hw=>⟨⟨τ,ob,hτ,ho,hw⟩,trivial⟩
 | x::r,q::ps,_,_,_,_,_,h,hτ,ho,hw=>⟨h.1,eG.app h.2 hτ ho hw⟩
 | [],_::_,_,_,_,_,_,h,_,_,_=>h.elim
 | _::_,[],_,_,_,_,_,h,_,_,_=>h.elim
def acp{j o g0 g:Nat}(hj:ex[j]?=some (o,g0)):(ex.set j (o,g)).map Prod.fst=ex.map Prod.fst:=by
 refine ayL fun k=>?_;rw[axP,axP];by_cases hkj:j=k
 .subst hkj;rw[ayx (eX hj),hj];rfl
 .rw [axU hkj]
def VQ{m i:Nat}{E:AM.Heap}(h:NtV c b t E 0 1 2 ex M)(hi:i<=100000)(hb:b.length<=100000)(hk:∀ y∈M,y.1.length=3/\y.2.length<=1000000):∃ code,Try.f59.body=some code /\
 aj (jO fun fr E'=>∃ ex',NtV c b t E' 0 1 2 ex' (ntB b M i)/\(∀ (k:Nat) (x:Nat×Nat),ex[k]?=some x->∃ g,ex'[k]?=some (x.1,g))/\(∀ k x,ex.length<=k->ex'[k]?=some x->E.length<=x.1)) X (evT X) 59 m code [(0,.int .i64 (i:Nat)),(1,.ptr 0 0 0 0),(2,.ptr 1 0 0 0)] E:=by
 refine⟨_,rfl,?_⟩;apply aj.seq (piece (afV h hi hb) _ rfl);unfold ntB;by_cases hl:i+3<=b.length
 .rw [decide_eq_true hl,if_pos hl];refine aj.y5 (by simp[aJ,aB]) ?_;apply aj.seq (piece (afW h hl hb) _ rfl);obtain⟨x,hx⟩:∃ x,b[i]?=some x:=⟨_,axI (by omega)⟩;obtain⟨y,hy⟩:∃ x,b[i+1]?=some x:=⟨_,axI (by omega)⟩;obtain⟨z,hz⟩:∃ x,b[i+2]?=some x:=⟨_,axI (by omega)⟩;have hkey:=key_eq hx hy hz;have hkl:(qE b i).length=3:=by rw[hkey];rfl
  have hfit:vU X 94 (.agg (.pb (qE b i)))=true:=by rw[hkey];exact ajg x y z
  generalize qE b i=key at *;have hE0:=h.cat [some (keO key)];have hp0:(E++[some (keO key)])[E.length]?=some (some (keO key)):=by simp
  have hEl:(E++[some (keO key)]).length=E.length+1:=by simp
  generalize E++[some (keO key)]=E0 at *;obtain⟨τ2,b2,h2⟩:=hE0.mb;obtain⟨τ3,b3,h3⟩:=hE0.mp;have hlen:=hE0.len;have hnd:=hE0.nd;have hnd':(ex.map Prod.fst).Nodup:=by simp at hnd;exact hnd.2.2.2
  have hne2:∀ x∈ex,x.1≠2/\x.1≠0/\x.1≠1:=by intro x hx;have hm:x.1∈ex.map Prod.fst:=ayd.2 ⟨x,hx,rfl⟩;refine⟨?_,?_,?_⟩<;>(intro e;rw[e]at hm;simp at hnd hm;simp_all)
  have hlive:live E0 2 0=some (pmO (ntE ex M) τ3):=by simp[live,h3,pmO]
  obtain⟨l1,l2,l3,l4⟩:=hE0.lt;cases hidx:zC key M 0 with
  | some j=>
   obtain⟨⟨o,g⟩,l,f1,f2,f3⟩:=oW (ex:=ex) hlen (fun y hy=>by rw[(hk y hy).1,hkl]) hidx;simp only[azL]at f1 f2;have hE1:uJ X E0 94 (.map 2 0) (.agg (.pb key))=some (.tup [.sl o 0 l.length g,.int .i64 (j:Nat)],E0):=by unfold uJ;rw[hfit];simp only[azz,if_false,hlive,pmO];rw[f3]
   obtain⟨o',g',τ,ob,r1,r2,r3,r4⟩:=hE0.rows.at' j (iH l) (by rw[axP,f2];rfl);rw[f1]at r1;obtain⟨rfl,rfl⟩:o=o'/\g=g':=by simpa using r1
   obtain⟨ob',w1,w2⟩:=acn (y:=i) r3 r4 (by have:=(hk _ (axT f2)).2;simp only at this;omega);obtain⟨q2,q0,q1⟩:=hne2 (o,g) (axT f1);simp only at q2 q0 q1;have hm3:(upd E0 o (some ob'))[2]?=some (some (pmO (ntE ex M) τ3)):=rV h3 q2;have RD:live (upd E0 o (some ob')) 2 0=some (pmO (ntE ex M) τ3):=by simp[live,hm3,pmO]
   have hent:=WA f1 f2;have hS:iD (upd E0 o (some ob')) (.map 2 0) (.int .i64 (j:Nat)) (.sl o 0 (l.length+1) (g+1))=some (upd (upd E0 o (some ob')) 2 (some (pmO (ntE (ex.set j (o,g+1)) (M.set j (key,l++[i]))) τ3))):=by unfold iD;simp only[oP,azz,if_false,RD,pmO];rw[if_pos (by omega),ayA,hent];simp only;rw[<- RN (x:=(o,g+1)) (y:=(key,l++[i])) hlen];simp
   refine aj.of (o:=⟨.normal,[],_⟩) (piece (ac9 h2 hp0 hkl hE1 w2 hS) _ rfl) ⟨.inl rfl,ex.set j (o,g+1),?_,?_,?_⟩
   .rw [Uk hidx f2];obtain⟨τ1,τ0,a1,a2,h1⟩:=hE0.bx;refine⟨⟨τ1,τ0,a1,a2,rV (rV h1 q0) (by omega)⟩,⟨τ2,b2,rV (rV h2 q1) (by omega)⟩,⟨τ3,b3,setAt hm3⟩,?_,?_⟩
    .rw [List.map_set];refine eG.setAt hE0.rows hnd' ⟨g,f1⟩ (fun x hx hxo=>?_) (rV (setAt r3) (ax6 q2)) r2 w1;unfold upd;rw[axU (ax6 (hne2 x hx).1),axU (ax6 hxo)]
    .rw [acp f1];exact hnd
   .intro k x hx;by_cases hjk:j=k
    .subst hjk;rw[f1]at hx;cases hx;exact⟨g+1,ayx (eX f1)⟩
    .exact ⟨x.2,by rw[axU hjk];exact hx⟩
   .intro k x h1 h2;have:=eX h2;rw[az6]at this;omega
  | none=>
   have f3:=mV (ex:=ex) hlen (fun y hy=>by rw[(hk y hy).1,hkl]) hidx;have hE1:uJ X E0 94 (.map 2 0) (.agg (.pb key))=some (.tup [.ro 0 .pn 0,.int .i64 (M.length:Nat)],upd E0 2 (some (pmO (ntE ex M++[.pc [.agg (.pb key),.ro 0 .pn 0]]) τ3))):=by unfold uJ;rw[hfit];simp only[azz,if_false,hlive,pmO];rw[f3];simp only[ac8,yA hlen]
   have hA:=aco (upd E0 2 (some (pmO (ntE ex M++[.pc [.agg (.pb key),.ro 0 .pn 0]]) τ3))) i;have hul:(upd E0 2 (some (pmO (ntE ex M++[.pc [.agg (.pb key),.ro 0 .pn 0]]) τ3))).length=E0.length:=by simp[upd]
   have hu2:(upd E0 2 (some (pmO (ntE ex M++[.pc [.agg (.pb key),.ro 0 .pn 0]]) τ3)))[2]?=some (some (pmO (ntE ex M++[.pc [.agg (.pb key),.ro 0 .pn 0]]) τ3)):=setAt h3;rw[hul]at hA;have hu:∀ j,j≠2->(upd E0 2 (some (pmO (ntE ex M++[.pc [.agg (.pb key),.ro 0 .pn 0]]) τ3)))[j]?=E0[j]?:=fun j hj=>by unfold upd;rw[axU (ax6 hj)]
   generalize upd E0 2 (some (pmO (ntE ex M++[.pc [.agg (.pb key),.ro 0 .pn 0]]) τ3))=E1 at *;have hm3:(E1++[some (⟨iH [i],0,none,0,true,false,0⟩:AM.Obj)])[2]?=some (some (pmO (ntE ex M++[.pc [.agg (.pb key),.ro 0 .pn 0]]) τ3)):=by rw[axL (by omega)];exact hu2
   have RD:live (E1++[some (⟨iH [i],0,none,0,true,false,0⟩:AM.Obj)]) 2 0=some (pmO (ntE ex M++[.pc [.agg (.pb key),.ro 0 .pn 0]]) τ3):=by simp only[live,hm3,pmO,if_true]
   have hent:(ntE ex M++[AV.pc [.agg (.pb key),.ro 0 .pn 0]])[M.length]?=some (.pc [.agg (.pb key),.ro 0 .pn 0]):=by rw[axS (by rw[yA hlen];omega),yA hlen,azI];rfl
   have hset:(ntE ex M++[AV.pc [.agg (.pb key),.ro 0 .pn 0]]).set M.length (.pc [.agg (.pb key),.sl E0.length 0 1 0])=ntE (ex++[(E0.length,0)]) (M++[(key,[i])]):=by rw[<- RQ (x:=(E0.length,0)) (y:=(key,[i])) hlen,List.set_append_right _ _ (by rw[yA hlen];omega),yA hlen,azI];rfl
   have hS:iD (E1++[some (⟨iH [i],0,none,0,true,false,0⟩:AM.Obj)]) (.map 2 0) (.int .i64 (M.length:Nat)) (.sl E0.length 0 1 0)=some (upd (E1++[some (⟨iH [i],0,none,0,true,false,0⟩:AM.Obj)]) 2 (some (pmO (ntE (ex++[(E0.length,0)]) (M++[(key,[i])])) τ3))):=by unfold iD;simp only[oP,azz,if_false,RD,pmO];rw[if_pos (by omega),ayA,hent];simp only;rw[hset]
   refine aj.of (o:=⟨.normal,[],_⟩) (piece (ac9 h2 hp0 hkl hE1 hA hS) _ rfl) ⟨.inl rfl,ex++[(E0.length,0)],?_,?_,?_⟩
   .rw [Ul hidx];obtain⟨τ1,τ0,a1,a2,h1⟩:=hE0.bx;have hold:∀ j,j≠2->j<E0.length->(upd (E1++[some (⟨iH [i],0,none,0,true,false,0⟩:AM.Obj)]) 2 (some (pmO (ntE (ex++[(E0.length,0)]) (M++[(key,[i])])) τ3)))[j]?=E0[j]?:=fun j hj hjl=>by
     unfold upd;rw[axU (ax6 hj),axL (by omega),hu j hj]
    have aji:(upd (E1++[some (⟨iH [i],0,none,0,true,false,0⟩:AM.Obj)]) 2 (some (pmO (ntE (ex++[(E0.length,0)]) (M++[(key,[i])])) τ3)))[E0.length]?=some (some ⟨iH [i],0,none,0,true,false,0⟩):=by unfold upd;rw[axU (by omega),axS (by omega),hul,azI];rfl
    refine⟨⟨τ1,τ0,a1,a2,by rw[hold 0 (by omega) l1];exact h1⟩,⟨τ2,b2,by rw[hold 1 (by omega) l2];exact h2⟩,⟨τ3,b3,setAt hm3⟩,?_,?_⟩
    .rw [ayy];refine eG.app (hE0.rows.keep fun x hx=>hold x.1 (hne2 x hx).1 (l4 x hx)) (τ:=0) (.inl rfl) (ob:=⟨iH [i],0,none,0,true,false,0⟩) aji ⟨rfl,rfl,rfl,rfl,rfl⟩
    .rw [ayy];simp only[ax9,aye];rw[show(0::1::2::(ex.map Prod.fst++[E0.length]))=(0::1::2::ex.map Prod.fst)++[E0.length]by simp,azF];refine⟨hnd,by simp,?_⟩;intro x hx y hy;simp only[ayb]at hy;subst hy;simp only[ax2]at hx;rcases hx with rfl|rfl|rfl|hx
     .omega
     .omega
     .omega
     .obtain ⟨z,hz,rfl⟩:=ayd.1 hx;have:=l4 z hz;omega
   .intro k x hx;exact⟨x.2,by rw[axL (eX hx)];exact hx⟩
   .intro k x h1 h2;have hkk:=eX h2;simp at hkk;have:k=ex.length:=by omega
    subst this;rw[axS (axO _),azI]at h2;simp at h2;rw[<- h2];simp only;omega
 .rw [decide_eq_false hl,if_neg hl];refine aj.of (o:=⟨.normal,[(0,.int .i64 (i:Nat)),(1,.ptr 0 0 0 0),(2,.ptr 1 0 0 0),(9,.bool false)],E⟩) (Run.cond (d:=false) (by simp[aJ,aB]) ⟨0,rfl⟩) ⟨.inl rfl,ex,h,fun k x hx=>⟨x.2,hx⟩,fun k x h1 h2=>by have:=eX h2;omega⟩
end
def acr(K:Nat):pi0 K=pid 0 K:=by
 unfold pi0 pid;simp
section
variable {c:Nat}{b:List UInt8}{t:Nat}{H:AM.Heap}{o1 o4 om:Nat}{ex:List (Nat×Nat)}{M:Pls}
def jB(c:Nat)(b:List UInt8)(M:Pls):(ntS c b M).length=M.length+3:=by simp[ntS]
def ae8(c:Nat)(b:List UInt8)(M:Pls):pi0 (ntS c b M).length=(0,0)::(1,0)::(2,0)::pid 3 M.length:=by
 rw[acr,jB,Ap,Ap,Ap]
def BZ(d n:Nat):(pid d n).map Prod.fst=(List.range n).map (d+·):=by simp[pid]
def Fz(c:Nat)(b:List UInt8)(M:Pls){k:Nat}{y:List UInt8×List Nat}(h:M[k]?=some y):(ntS c b M)[k+3]?=some (rwF (iH y.2)):=by
 unfold ntS;rw[axS (by simp)];simp[h]
def ZY(c:Nat)(b:List UInt8)(M:Pls):OkS (ntS c b M):=by
 intro k ob hk o ho;rw[jB]
 match k,hk with
 | 0,hk=>cases hk;simp[bxN,ids,aC]at ho
 | 1,hk=>cases hk;simp[bxN,ids,aC]at ho;omega
 | 2,hk=>
  cases hk;simp only[pmO,ids]at ho;rw[Aq (tV 3 _),BZ]at ho;simp at ho;omega
 | k+3,hk=>
  have hl:k<M.length:=by have:=eX hk;rw[jB]at this;omega
  rw[Fz c b M (axI hl)]at hk;cases hk;simp[rwF,iH,ids]at ho
def Il{S:List AM.Obj}:∀ (l:List Nat) (n:Nat) (acc:List Nat),l.length<=n->(∀ x∈l,∃ ob,S[x]?=some ob/\ob.ids=false)->(acc++l).Nodup->reach (S.map some) n l acc=acc++l
 | [],n,acc,_,_,_=>by cases n<;>simp[reach]
 | x::l,0,acc,h,_,_=>by simp at h
 | x::l,n+1,acc,h,hx,hnd=>by
  obtain⟨ob,h1,h2⟩:=hx x (ays ..);have hna:acc.contains x=false:=by rw[azF]at hnd;have:x∉acc:=fun hm=>hnd.2.2 x hm x (ays ..) rfl;simpa using this
  have hS:(S.map some)[x]?=some (some ob):=by rw[axP,h1];rfl
  simp only[reach];rw[hna,hS];simp only[h2,axZ,if_false,ax8];rw[Il l n (acc++[x]) (by simp at h;omega) (fun y hy=>hx y (aya _ hy)) (by simpa using hnd)];simp
def VR(c:Nat)(b:List UInt8)(M:Pls)(hM:M.length<=2000):reach ((ntS c b M).map some) aA [0,1] []=List.range (ntS c b M).length:=by
 have e0:((ntS c b M).map some)[0]?=some (some (bxN (.ro c (.pb b) 0) 0)):=rfl;have e1:((ntS c b M).map some)[1]?=some (some (bxN (.map 2 0) 0)):=rfl;have e2:((ntS c b M).map some)[2]?=some (some (pmO (ntE (pid 3 M.length) M) 0)):=rfl;have hr:=Il (S:=ntS c b M) ((pid 3 M.length).map Prod.fst) (aA-3) [0,1,2] (by rw[ayB,tV];show _<=99997;omega) (by
  intro x hx;rw[BZ]at hx;obtain⟨k,hk,rfl⟩:=ayd.1 hx;have hk:=ayh.1 hk;refine⟨rwF (iH (M[k]).2),?_,?_⟩
  .have:=Fz c b M (axI hk)
   rwa [show 3+k=k+3 by omega]
  .rfl) (by
  rw[BZ];rw[azF];refine⟨by simp,?_,?_⟩
  .rw [ayu,azD];refine List.Pairwise.imp_of_mem ?_ (ayu.1 az0);intro x y _ _ h e;omega
  .intro x hx y hy e;obtain⟨k,_,rfl⟩:=ayd.1 hy;simp at hx;omega)
 have asQ:List.range (M.length+3)=[0,1,2]++(pid 3 M.length).map Prod.fst:=by rw[BZ];rw[azH,List.range_add];rfl
 rw[jB,asQ,<- hr];show reach _ (aA-3+1+1+1) _ _=_;generalize aA-3=n;rw[reach,e0];simp only[bxN,List.contains_nil,axZ,if_false,ids,aC,if_true,ax8];rw[reach,e1];simp only[bxN,ids,aC,if_true];rw[if_neg (by simp)];simp only[ax1,ayj,ax8];rw[reach,e2];simp only[pmO,ids,if_true,Aq (tV 3 _)];rw[if_neg (by simp)];simp
def acs{i:Nat}(h:NtV c b t H o1 o4 om ex M)(hi:i<=100000)(hb:b.length<=100000)(hk:∀ y∈M,y.1.length=3/\y.2.length<=1000000)(hM:M.length<=1500) :
 ∃ H' ex',evT X 59 [.int .i64 (i:Nat),.ptr o1 0 0 0,.ptr o4 0 0 0] H=some (.tup [],H')/\NtV c b t H' o1 o4 om ex' (ntB b M i)/\(∀ (k:Nat) (x:Nat×Nat),ex[k]?=some x->∃ g,ex'[k]?=some (x.1,g))/\(∀ k x,ex.length<=k->ex'[k]?=some x->H.length<=x.1)/\H.length<=H'.length /\
  (∀ j,j<H.length->j≠o1->j≠o4->j≠om->j∉ex.map Prod.fst->H'[j]?=H[j]?):=by
 obtain⟨code,hc⟩:∃ code,Try.f59.body=some code:=⟨_,rfl⟩;have hI:=h.img;have hMl:(ntB b M i).length<=M.length+1/\M.length<=(ntB b M i).length:=by
  unfold ntB ntM;split
  .split<;>simp
  .omega
 obtain⟨π'',S',v0,H',τf,hE,hτf,hI',hok',hid,⟨hv0,hS'⟩,hlen,hfix,hnew,hrest⟩:=Ev1.img (C:=X) (T:=evT X) (f:=59) (H:=H) (n:=4) (xs:=[.int .i64 (i:Nat),.ptr o1 0 0 0,.ptr o4 0 0 0]) (ys:=[.int .i64 (i:Nat),.ptr 0 0 0 0,.ptr 1 0 0 0])
  (Q:=fun S' v0=>v0=.tup []/\S'=ntS c b (ntB b M i)) (bC X) Try.func59 hc hI (ZY c b M)
  (gG.flat rfl rfl (gG.ptr hI rfl (o:=o1) (k:=0) rfl (by rw[jB];omega) (gG.ptr hI rfl (o:=o4) (k:=1) rfl (by rw[jB];omega) gG.nil))) (by
   have:=VR c b M (by omega);simpa[aC,ids]using this) rfl (by simp[dA]) (by
   intro E hEl hEI;obtain⟨p1,p4,pm,ex0,hπ,hV⟩:=NtV.nP hEI;rw[ae8]at hπ;simp only[ay3,axJ,and_true]at hπ;obtain⟨rfl,rfl,rfl,rfl⟩:=hπ;obtain⟨nM,hc2,ht⟩:=VQ (m:=(ntS c b M).length) (i:=i) hV hi hb hk;rw[hc]at hc2;obtain rfl:=axN hc2;rw[agw];refine ht.mono fun out ho=>⟨ho.1,?_⟩;obtain⟨ex',q1,q2,q3⟩:=ho.2;refine Leaves.plain (S':=ntS c b (ntB b M i)) (l:=[]) rfl rfl rfl rfl q1.img (ZY c b _) (by rw[jB,jB];omega) ?_ ?_ ?_ ⟨rfl,rfl⟩
   .intro k hk;rw[jB]at hk
    match k,hk with
    | 0,_=>exact⟨0,rfl⟩
    | 1,_=>exact⟨0,rfl⟩
    | 2,_=>exact⟨0,rfl⟩
    | k+3,hk=>
     obtain⟨g,hg⟩:=q2 k (3+k,0) (J5 (by omega));exact⟨g,by rw[axX,axX,axX,hg,azH]⟩
   .intro k ob ob' h1 h2
    match k,h1,h2 with
    | 0,h1,h2=>cases h1;cases h2;rfl
    | 1,h1,h2=>cases h1;cases h2;rfl
    | 2,h1,h2=>cases h1;cases h2;rfl
    | k+3,h1,h2=>
     have l1:=eX h1;have l2:=eX h2;rw[jB]at l1 l2;rw[Fz c b M (axI (by omega))]at h1;rw[Fz c b _ (axI (by omega))]at h2;cases h1;cases h2;rfl
   .intro k hk1 hk2;rw[jB]at hk1 hk2;have hf:(List.range (ntS c b M).length).length+wtF [] 0 (ntS c b (ntB b M i))<=aA:=by
     rw[azV,jB];unfold ntS;rw[ES,Ak];have h1:wtF [] 0 [bxN (.ro c (.pb b) 0) 0,bxN (.map 2 0) 0,pmO (ntE (pid 3 (ntB b M i).length) (ntB b M i)) 0]=1+(ntB b M i).length:=by simp[wtF,kids,bxN,pmO,ids,aC,Aq (tV 3 _),tV]
     rw[h1];show _<=100000;omega
    refine Cm hf (x:=2) (ob:=pmO (ntE (pid 3 (ntB b M i).length) (ntB b M i)) 0) (oU hf (ayh.2 (by rw[jB];omega)) (by rw[jB];omega)) rfl ?_ (by rw[jB];omega);simp only[kids,pmO,if_true,ids];rw[Aq (tV 3 _),BZ];exact ayd.2 ⟨k-3,ayh.2 (by omega),by omega⟩)
 subst hv0 hS';obtain⟨p1,p4,pm,ex',hπ,hV⟩:=NtV.nP hI';subst hπ;have f0:=hfix 0 o1 0 rfl;have f1:=hfix 1 o4 0 rfl;have f2:=hfix 2 om 0 rfl;simp at f0 f1 f2;subst f0 f1 f2;refine⟨H',ex',dI (by simpa[ren,bU]using hE),hV,?_,?_,hlen,?_⟩
 .intro k x hx;obtain⟨g,hg⟩:=hfix (k+3) x.1 x.2 (by rw[axX,axX,axX];exact hx);exact⟨g,by simpa using hg⟩
 .intro k x hk hx;exact hnew (k+3) x.1 x.2 (by rw[jB,<- h.len];omega) (by rw[axX,axX,axX];exact hx)
 .intro j hj h1 h4 hm hx;refine hrest j hj ?_;intro k o g hk e;subst e
  match k,hk with
  | 0,hk=>simp at hk;exact h1 hk.1.symm
  | 1,hk=>simp at hk;exact h4 hk.1.symm
  | 2,hk=>simp at hk;exact hm hk.1.symm
  | k+3,hk=>
   rw[axX,axX,axX]at hk;exact hx (ayd.2 ⟨(j,g),axT hk,rfl⟩)
end
def uU(b:List UInt8)(p:Nat):List Nat->Nat×Nat->Nat×Nat
 | [],s=>s
 | x::r,s=>if p-x<=32768/\s.1<258 then uU b p r (if s.1<fE b x p 258 0 then(fE b x p 258 0,p-x)else s)else s
def Cb(b:List UInt8)(i k:Nat):∀ (f n:Nat),n<=258->fE b i k f n<=258/\n<=fE b i k f n
 | 0,n,h=>⟨h,axO _⟩
 | f+1,n,h=>by
  unfold fE;split
  .rename_i hc;have:=Cb b i k f (n+1) (by omega);omega
  .exact ⟨h,axO _⟩
def fnV:AV:=.fn 59 [.ptr 0 0 0 0,.ptr 4 0 0 0]
def tJ(v:AV)(p:Nat):AM.Frame:=[(1,.ptr 0 0 0 0),(3,v),(4,.ptr 4 0 0 0),(5,fnV),(6,.int .i64 (p:Nat))]
def mQ(v:AV)(p n d o len g:Nat)(I:Int):AM.Frame:=[(1,.ptr 0 0 0 0),(3,v),(4,.ptr 4 0 0 0),(5,fnV),(6,.int .i64 (p:Nat)),(7,.int .i64 (n:Nat)),(8,.int .i64 (d:Nat)),(9,.sl o 0 len g),(10,.int .i64 I)]
section
variable {c:Nat}{b:List UInt8}{t:Nat}{H:AM.Heap}{ex:List (Nat×Nat)}{M:Pls}
def ae9{m p n d o g τ i:Nat}{l:List Nat}{v:AV}{ob:AM.Obj}{E:AM.Heap}(ho:E[o]?=some (some ob))(hw:RwT (iH l) g τ ob)(hl:∀ x∈l,x<p)(hp:p<=100000)(hi:i<=l.length)(hll:l.length<=100000) :
 ∃ code,Try.f43.body.bind (ay [1,1,1,1,0,1,0,0,1,0,1,0,1,0,1,1,0,0,0,0])=some code/\Run X (evT X) 43 m code (mQ v p n d o l.length g ((i:Int)-1)) E ⟨.normal,mQ v p n d o l.length g ((i:Int)-1)++[(58,.bool (match l[i-1]? with|some x=>decide (0<i)&&(decide (p-x<=32768)&&decide (n<258))|none=>false))],E⟩:=by
 refine⟨_,rfl,?_⟩;have q1:=hw.p;have q2:=hw.g;have q4:=hw.ids;have q5:=hw.tg;simp only[mQ,iH]at q1 ⊢;by_cases h0:i=0
 .subst h0;have e1:(((0:Nat):Int)-1)=-1:=rfl;have e2:¬ (0:Int)<=-1:=by omega
  have e3:(match l[0-1]? with|some x=>decide (0<0)&&(decide (p-x<=32768)&&decide (n<258))|none=>false)=false:=by cases l[0-1]?<;>rfl
  rw[e1,e3];generalize l.length=N at *;apply Pe;simp[-getElem?_pos,go_sem,e2]
 .obtain ⟨j,rfl⟩:∃ j,i=j+1:=⟨i-1,by omega⟩;have e1:(((j+1:Nat):Int)-1)=(j:Nat):=by omega
  have hjl:j<l.length:=by omega
  obtain⟨x,hx⟩:∃ x,l[j]?=some x:=⟨_,axI hjl⟩;have hxp:=hl x (axT hx);have hx':(l.map Int.ofNat)[j]?=some (x:Int):=by rw[axP,hx];rfl
  have afa:(l.map Int.ofNat).length=l.length:=by simp
  rw[show j+1-1=j by omega,hx];simp only[Nat.zero_lt_succ,decide_true,azh];rw[e1];have w1:IntKind.i64.wrap ((p:Int)-(x:Int))=((p-x:Nat):Int):=by rw[wrap_i64 (by omega) (by omega)];omega
  have hjI:(j:Int)<(l.length:Int):=by omega
  generalize l.map Int.ofNat=L at *;generalize l.length=N at *;by_cases h1:p-x<=32768
  .have h1I:((p-x:Nat):Int)<=32768:=by omega
   rw[decide_eq_true h1];by_cases h2:n<258
   .have h2I:(n:Int)<258:=by omega
    rw[decide_eq_true h2];generalize p-x=px at *;apply Pe;simp[-getElem?_pos,go_sem,retag,ho,q1,q2,q4,q5,hx',hjI,hjl,afa,w1,h1,h1I,h2,h2I]
   .have h2I:¬ (n:Int)<258:=by omega
    rw[decide_eq_false h2];generalize p-x=px at *;apply Pe;simp[-getElem?_pos,go_sem,retag,ho,q1,q2,q4,q5,hx',hjI,hjl,afa,w1,h1,h1I,h2,h2I]
  .have h1I:¬ ((p-x:Nat):Int)<=32768:=by omega
   rw[decide_eq_false h1];generalize p-x=px at *;apply Pe;simp[-getElem?_pos,go_sem,retag,ho,q1,q2,q4,q5,hx',hjI,hjl,afa,w1,h1,h1I]
def Z4{m p n d o g τ j x:Nat}{l:List Nat}{v:AV}{ob:AM.Obj}{E:AM.Heap}{o4 om:Nat}{D:Bool}(hN:NtV c b t E 0 o4 om ex M)(ho:E[o]?=some (some ob))(hw:RwT (iH l) g τ ob)(hx:l[j]?=some x)(hxp:x<p)(hp:p<=100000)(hb:b.length<=100000)(hll:l.length<=100000) :
 ∃ code,Try.f43.body.bind (ay [1,1,1,1,0,1,0,0,1,0,1,0,1,0,1,1,0,0,1,0,0,0])=some code/\Run X (evT X) 43 m code (mQ v p n d o l.length g (j:Nat)++[(58,.bool D)]) E ⟨.normal,mQ v p n d o l.length g (j:Nat)++[(11,.int .i64 (fE b x p 258 0:Nat))],E⟩:=by
 refine⟨_,rfl,?_⟩;obtain⟨τ1,τ2,_,_,h1⟩:=hN.bx;simp only[bxN]at h1;have q1:=hw.p;have q2:=hw.g;have q4:=hw.ids;have q5:=hw.tg;simp only[mQ,iH]at q1 ⊢;have hjl:j<l.length:=eX hx;have hjI:(j:Int)<(l.length:Int):=by omega
 have hx':(l.map Int.ofNat)[j]?=some (x:Int):=by rw[axP,hx];rfl
 have hS:=aao (H:=E) (a:=.ro c (.pb b) τ1) rfl hxp hb hp;generalize fE b x p 258 0=y at *;generalize l.map Int.ofNat=L at *;generalize l.length=N at *;apply Pe;simp[-getElem?_pos,go_sem,retag,h1,ho,q1,q2,q4,q5,hx',hjI,hjl,hS,ak]
def Z5{m p n d o g τ j x:Nat}{l:List Nat}{v:AV}{ob:AM.Obj}{E:AM.Heap}{o4 om:Nat}(hN:NtV c b t E 0 o4 om ex M)(ho:E[o]?=some (some ob))(hw:RwT (iH l) g τ ob)(hx:l[j]?=some x)(hxp:x<p)(hp:p<=100000)(hb:b.length<=100000)(hll:l.length<=100000)(hn:n<=258)(hd:d<=100000) :
 ∃ code,Try.f43.body.bind (ay [1,1,1,1,0,1,0,0,1,0,1,0,1,0,1,1,0,0,1])=some code/\Run X (evT X) 43 m code (mQ v p n d o l.length g (j:Nat)++[(58,.bool true)]) E ⟨.normal,mQ v p (if n<fE b x p 258 0 then(fE b x p 258 0,p-x)else(n,d)).1 (if n<fE b x p 258 0 then(fE b x p 258 0,p-x)else(n,d)).2 o l.length g ((j:Int)-1),E⟩:=by
 refine⟨_,rfl,?_⟩;have q1:=hw.p;have q2:=hw.g;have q4:=hw.ids;have q5:=hw.tg;have hjl:j<l.length:=eX hx;have hjI:(j:Int)<(l.length:Int):=by omega
 have hx':(l.map Int.ofNat)[j]?=some (x:Int):=by rw[axP,hx];rfl
 have hsb:=(Cb b x p 258 0 (by omega)).1;have w1:IntKind.i64.wrap ((p:Int)-(x:Int))=((p-x:Nat):Int):=by rw[wrap_i64 (by omega) (by omega)];omega
 have w2:IntKind.i64.wrap ((j:Int)-1)=(j:Int)-1:=by rw[wrap_i64 (by omega) (by omega)]
 by_cases hgt:n<fE b x p 258 0
 .rw [if_pos hgt];have hgI:(n:Int)<(fE b x p 258 0:Nat):=by omega
  apply Run.seq (fr':=mQ v p (fE b x p 258 0) (p-x) o l.length g (j:Nat)) (H':=E)
  .apply Run.block
   .apply Run.seq (piece (Z4 (D:=true) hN ho hw hx hxp hp hb hll) _ rfl);apply Run.seq (fr':=mQ v p n d o l.length g (j:Nat)++[(11,.int .i64 (fE b x p 258 0:Nat)),(70,.bool true)]) (H':=E)
    .generalize fE b x p 258 0=y at *;generalize l.length=N at *;simp only[mQ];apply Pe;simp[-getElem?_pos,go_sem,hgI,hgt]
    refine Run.cond (d:=true) (by simp[mQ,aJ,aB]) ?_;simp only[iH]at q1;generalize fE b x p 258 0=y at *;generalize l.map Int.ofNat=L at *;generalize l.length=N at *;generalize p-x=px at *;simp only[mQ];apply Pe;simp[-getElem?_pos,go_sem,retag,ho,q1,q2,q4,q5,hx',hjI,hjl,w1,ak]
   .simp
  .generalize fE b x p 258 0=y at *;generalize l.length=N at *;simp only[mQ];apply Pe;simp[-getElem?_pos,go_sem,w2,ak]
 .rw [if_neg hgt];have hgI:¬ (n:Int)<(fE b x p 258 0:Nat):=by omega
  apply Run.seq (fr':=mQ v p n d o l.length g (j:Nat)++[(11,.int .i64 (fE b x p 258 0:Nat)),(70,.bool false)]) (H':=E)
  .apply Run.block
   .apply Run.seq (piece (Z4 (D:=true) hN ho hw hx hxp hp hb hll) _ rfl);apply Run.seq (fr':=mQ v p n d o l.length g (j:Nat)++[(11,.int .i64 (fE b x p 258 0:Nat)),(70,.bool false)]) (H':=E)
    .generalize fE b x p 258 0=y at *;generalize l.length=N at *;simp only[mQ];apply Pe;simp[-getElem?_pos,go_sem,hgI,hgt]
    refine Run.cond (d:=false) (by simp[mQ,aJ,aB]) ⟨0,rfl⟩
   .simp
  .generalize fE b x p 258 0=y at *;generalize l.length=N at *;simp only[mQ];apply Pe;simp[-getElem?_pos,go_sem,w2,ak]
def acu{m p o g τ:Nat}{l:List Nat}{v:AV}{ob:AM.Obj}{E:AM.Heap}{o4 om:Nat}(hN:NtV c b t E 0 o4 om ex M)(ho:E[o]?=some (some ob))(hw:RwT (iH l) g τ ob)(hl:∀ x∈l,x<p)(hp:p<=100000)(hb:b.length<=100000)(hll:l.length<=100000) :
 ∃ code,Try.f43.body.bind (ay [1,1,1,1,0,1,0,0,1,0,1,0,1,0,1,1])=some code/\aj (Goes fun fr E'=>∃ I,fr=mQ v p (uU b p l.reverse (0,0)).1 (uU b p l.reverse (0,0)).2 o l.length g I++[(58,.bool false)]/\E'=E) X (evT X) 43 m code (mQ v p 0 0 o l.length g ((l.length:Int)-1)) E:=by
 refine⟨_,rfl,?_⟩;apply aj.block;refine aj.loop (σ:=Nat×(Nat×Nat)) (fun s=>s.1<=l.length/\s.2.1<=258/\s.2.2<=100000/\uU b p (l.take s.1).reverse s.2=uU b p l.reverse (0,0)) (fun s=>mQ v p s.2.1 s.2.2 o l.length g ((s.1:Int)-1)) (fun _=>E) (fun s=>s.1) ?_ (l.length,(0,0)) ⟨axO _,by simp,by simp,by rw[ayM]⟩;rintro⟨i,n,d⟩ ⟨hi,hn,hd,hs⟩;simp only at hi hn hd hs ⊢;have h10:=ae9 (m:=m) (p:=p) (n:=n) (d:=d) (v:=v) ho hw hl hp hi hll;by_cases h0:i=0
 .subst h0
  right
  have e3:(match l[0-1]? with|some x=>decide (0<0)&&(decide (p-x<=32768)&&decide (n<258))|none=>false)=false:=by cases l[0-1]?<;>rfl
  rw[e3]at h10;refine⟨⟨.exit 2,mQ v p n d o l.length g (((0:Nat):Int)-1)++[(58,.bool false)],E⟩,⟨rfl,((0:Nat):Int)-1,?_,rfl⟩,by simp,?_⟩
  .rw [<- hs];rfl
  .refine Run.bK ?_ (by simp);apply Run.seq (piece h10 _ rfl);refine Run.cond (d:=false) (by simp[mQ,aJ,aB]) ⟨0,rfl⟩
 .obtain ⟨j,rfl⟩:∃ j,i=j+1:=⟨i-1,by omega⟩;obtain⟨x,hx⟩:∃ x,l[j]?=some x:=⟨_,axI (by omega)⟩;have hxp:=hl x (axT hx);have ht:(l.take (j+1)).reverse=x::(l.take j).reverse:=by rw[azE,hx];simp
  rw[ht]at hs;simp only[uU]at hs;have e1:(((j+1:Nat):Int)-1)=(j:Nat):=by omega
  rw[show j+1-1=j by omega,hx]at h10;simp only[Nat.zero_lt_succ,decide_true,azh]at h10;rw[e1]at h10;rw[e1];by_cases hgo:p-x<=32768/\n<258
  .rw [if_pos hgo]at hs;rw[show(decide (p-x<=32768)&&decide (n<258))=true by simpa using hgo]at h10
   left
   refine⟨(j,if n<fE b x p 258 0 then(fE b x p 258 0,p-x)else(n,d)),⟨by omega,?_,?_,hs⟩,?_,by simp⟩
   .have:=(Cb b x p 258 0 (by omega)).1;simp only;split
    .exact this
    .exact hn
   .simp only;split
    .simp only;omega
    .exact hd
   .apply Run.seq (fr':=mQ v p n d o l.length g (j:Nat)++[(58,.bool true)]) (H':=E)
    .apply Run.seq (piece h10 _ rfl);refine Run.cond (d:=true) (by simp[mQ,aJ,aB]) ⟨0,rfl⟩
    .exact piece (Z5 hN ho hw hx hxp hp hb hll hn hd) _ rfl
  .rw [if_neg hgo]at hs;rw[show(decide (p-x<=32768)&&decide (n<258))=false by simpa using hgo]at h10
   right
   refine⟨⟨.exit 2,mQ v p n d o l.length g (j:Nat)++[(58,.bool false)],E⟩,⟨rfl,(j:Nat),by rw[<- hs],rfl⟩,by simp,?_⟩;refine Run.bK ?_ (by simp);apply Run.seq (piece h10 _ rfl);refine Run.cond (d:=false) (by simp[mQ,aJ,aB]) ⟨0,rfl⟩
end
def lkM(M:Pls)(k:List UInt8):List Nat:=match zC k M 0 with
 | some j=>(M.getD j ([],[])).2
 | none=>[]
def mW(b:List UInt8)(M:Pls)(p:Nat):Nat×Nat:=if p+3<=b.length then uU b p (lkM M (qE b p)).reverse (0,0)else(0,0)
def jG(v:AV)(p n d:Nat):AM.Frame:=[(1,.ptr 0 0 0 0),(3,v),(4,.ptr 4 0 0 0),(5,fnV),(6,.int .i64 (p:Nat)),(7,.int .i64 (n:Nat)),(8,.int .i64 (d:Nat))]
section
variable {c:Nat}{b:List UInt8}{t:Nat}{H:AM.Heap}{ex:List (Nat×Nat)}{M:Pls}
def afb{m p τ1 τ2 τ3 o g len:Nat}{v:AV}{E:AM.Heap}(h1:E[0]?=some (some (bxN (.ro c (.pb b) τ1) τ2)))(h4:E[4]?=some (some (bxN (.map 3 0) τ3)))(hp:p+3<=b.length)(hb:b.length<=100000)(hL:lY X E 94 (.map 3 0) (.agg (.pb (qE b p))) false=some (.sl o 0 len g)) :
 ∃ code,Try.f43.body.bind (ay [1,1,1,1,0,1,0,0,1,0,1,0,1,0,0])=some code/\Run X (evT X) 43 m code (jG v p 0 0++[(23,.bool true)]) E ⟨.normal,jG v p 0 0++[(9,.sl o 0 len g)],E⟩:=by
 refine⟨_,rfl,?_⟩;simp only[bxN]at h1 h4;obtain⟨x,hx⟩:∃ x,b[p]?=some x:=⟨_,axI (by omega)⟩;obtain⟨y,hy⟩:∃ x,b[p+1]?=some x:=⟨_,axI (by omega)⟩;obtain⟨z,hz⟩:∃ x,b[p+2]?=some x:=⟨_,axI (by omega)⟩;rw[key_eq hx hy hz]at hL;have w1:IntKind.i64.wrap ((p:Int)+1)=((p+1:Nat):Int):=by rw[wrap_i64 (by omega) (by omega)];omega
 have w2:IntKind.i64.wrap ((p:Int)+2)=((p+2:Nat):Int):=by rw[wrap_i64 (by omega) (by omega)];omega
 have l0:p<b.length:=by omega
 have l1:p+1<b.length:=by omega
 have l2:p+2<b.length:=by omega
 have l0I:(p:Int)<(b.length:Int):=by omega
 have l1I:((p+1:Nat):Int)<(b.length:Int):=by omega
 have l2I:((p+2:Nat):Int)<(b.length:Int):=by omega
 simp only[jG];generalize p + 1=p1 at *;generalize p + 2=p2 at *;apply Pe;simp[-getElem?_pos,go_sem,h1,h4,hx,hy,hz,w1,w2,l0,l1,l2,l0I,l1I,l2I,WH,hL,ak]
def emI:dh X 3=.pi .i64 []:=by kernel_rfl
def afc{m p τ1 τ2 τ3:Nat}{v:AV}{E:AM.Heap}(h1:E[0]?=some (some (bxN (.ro c (.pb b) τ1) τ2)))(h4:E[4]?=some (some (bxN (.map 3 0) τ3)))(hp:p+3<=b.length)(hb:b.length<=100000)(hL:lY X E 94 (.map 3 0) (.agg (.pb (qE b p))) false=some (.ro 0 .pn 0)) :
 ∃ code,Try.f43.body.bind (ay [1,1,1,1,0,1,0,0,1,0,1,0,1,0,0])=some code/\Run X (evT X) 43 m code (jG v p 0 0++[(23,.bool true)]) E ⟨.normal,jG v p 0 0++[(9,.sl E.length 0 0 0)],E++[some (rwF (iH []))]⟩:=by
 refine⟨_,rfl,?_⟩;simp only[bxN]at h1 h4;obtain⟨x,hx⟩:∃ x,b[p]?=some x:=⟨_,axI (by omega)⟩;obtain⟨y,hy⟩:∃ x,b[p+1]?=some x:=⟨_,axI (by omega)⟩;obtain⟨z,hz⟩:∃ x,b[p+2]?=some x:=⟨_,axI (by omega)⟩;rw[key_eq hx hy hz]at hL;have w1:IntKind.i64.wrap ((p:Int)+1)=((p+1:Nat):Int):=by rw[wrap_i64 (by omega) (by omega)];omega
 have w2:IntKind.i64.wrap ((p:Int)+2)=((p+2:Nat):Int):=by rw[wrap_i64 (by omega) (by omega)];omega
 have l0:p<b.length:=by omega
 have l1:p+1<b.length:=by omega
 have l2:p+2<b.length:=by omega
 have l0I:(p:Int)<(b.length:Int):=by omega
 have l1I:((p+1:Nat):Int)<(b.length:Int):=by omega
 have l2I:((p+2:Nat):Int)<(b.length:Int):=by omega
 simp only[jG,rwF,iH,aye];generalize p + 1=p1 at *;generalize p + 2=p2 at *;apply Pe;simp[-getElem?_pos,go_sem,h1,h4,hx,hy,hz,w1,w2,l0,l1,l2,l0I,l1I,l2I,WH,hL,ak,rowOf,emI]
def ajj{m p:Nat}{v:AV}{E:AM.Heap}(h:NtV c b t E 0 4 3 ex M)(hk:∀ y∈M,y.1.length=3)(hp:p+3<=b.length)(hb:b.length<=100000) :
 ∃ E' o g τ ob,E'[o]?=some (some ob)/\RwT (iH (lkM M (qE b p))) g τ ob/\(∃ r,E'=E++r)/\∃ code,Try.f43.body.bind (ay [1,1,1,1,0,1,0,0,1,0,1,0,1,0,0])=some code/\Run X (evT X) 43 m code (jG v p 0 0++[(23,.bool true)]) E ⟨.normal,jG v p 0 0++[(9,.sl o 0 (lkM M (qE b p)).length g)],E'⟩:=by
 obtain⟨τ1,τ2,_,_,h1⟩:=h.bx;obtain⟨τ3,_,h4⟩:=h.mb;obtain⟨τ5,_,h3⟩:=h.mp;have hlive:live E 3 0=some (pmO (ntE ex M) τ5):=by simp[live,h3,pmO]
 obtain⟨x,hx⟩:∃ x,b[p]?=some x:=⟨_,axI (by omega)⟩;obtain⟨y,hy⟩:∃ x,b[p+1]?=some x:=⟨_,axI (by omega)⟩;obtain⟨z,hz⟩:∃ x,b[p+2]?=some x:=⟨_,axI (by omega)⟩;have hkey:=key_eq hx hy hz;have hkl:(qE b p).length=3:=by rw[hkey];rfl
 have hfit:vU X 94 (.agg (.pb (qE b p)))=true:=by rw[hkey];exact ajg x y z
 unfold lkM;cases hidx:zC (qE b p) M 0 with
 | some j=>
  obtain⟨⟨o,g⟩,l,f1,f2,f3⟩:=oW (ex:=ex) h.len (fun y hy=>by rw[hk y hy,hkl]) hidx;simp only[azL]at f1 f2;have hL:lY X E 94 (.map 3 0) (.agg (.pb (qE b p))) false=some (.sl o 0 l.length g):=by unfold lY;rw[hfit];simp only[azz,if_false,hlive,pmO];rw[f3];rfl
  obtain⟨o',g',τ,ob,r1,r2,r3,r4⟩:=h.rows.at' j (iH l) (by rw[axP,f2];rfl);rw[f1]at r1;obtain⟨rfl,rfl⟩:o=o'/\g=g':=by simpa using r1
  have hg:(M.getD j ([],[])).2=l:=by rw[axQ,f2];rfl
  simp only[hg];exact⟨E,o,g,τ,ob,r3,r4,⟨[],by simp⟩,afb h1 h4 hp hb hL⟩
 | none=>
  have f3:=mV (ex:=ex) h.len (fun y hy=>by rw[hk y hy,hkl]) hidx;have hL:lY X E 94 (.map 3 0) (.agg (.pb (qE b p))) false=some (.ro 0 .pn 0):=by unfold lY;rw[hfit];simp only[azz,if_false,hlive,pmO];rw[f3];simp[ac8]
  exact⟨E++[some (rwF (iH []))],E.length,0,0,rwF (iH []),by simp,⟨rfl,rfl,rfl,rfl,rfl⟩,⟨_,rfl⟩,afc h1 h4 hp hb hL⟩
def ajk{m p τ1 τ2:Nat}{v:AV}{E:AM.Heap}(h1:E[0]?=some (some (bxN (.ro c (.pb b) τ1) τ2)))(hp:p<=100000):∃ code,Try.f43.body.bind (ay [1,1,1,1,0,1,0,0,1,0,1,0,0])=some code/\Run X (evT X) 43 m code (jG v p 0 0) E ⟨.normal,jG v p 0 0++[(23,.bool (decide (p+3<=b.length)))],E⟩:=by
 refine⟨_,rfl,?_⟩;simp only[bxN]at h1;simp only[jG];have w1:IntKind.i64.wrap ((p:Int)+3)=((p+3:Nat):Int):=by rw[wrap_i64 (by omega) (by omega)];omega
 by_cases hl:p+3<=b.length
 .have hlI:((p+3:Nat):Int)<=(b.length:Int):=by omega
  rw[decide_eq_true hl];generalize p + 3=p3 at *;apply Pe;simp[-getElem?_pos,go_sem,h1,w1,hl,hlI]
 .have hlI:¬ ((p+3:Nat):Int)<=(b.length:Int):=by omega
  rw[decide_eq_false hl];generalize p + 3=p3 at *;apply Pe;simp[-getElem?_pos,go_sem,h1,w1,hl,hlI]
def acv{m p:Nat}{v:AV}{E:AM.Heap}(h:NtV c b t E 0 4 3 ex M)(hk:∀ y∈M,y.1.length=3/\y.2.length<=100000/\∀ x∈y.2,x<p)(hp:p<=100000)(hb:b.length<=100000) :
 ∃ code,Try.f43.body.bind (ay [1,1,1,1,0,1,0,0,1,0,1,0])=some code/\aj (Goes fun fr E'=>dF [1,3,4,5,6,7,8] fr=jG v p (mW b M p).1 (mW b M p).2/\∃ r,E'=E++r) X (evT X) 43 m code (jG v p 0 0) E:=by
 refine⟨_,rfl,?_⟩;obtain⟨τ1,τ2,_,_,h1⟩:=h.bx;apply aj.seq (piece (ajk h1 hp) _ rfl);unfold mW;by_cases hl:p+3<=b.length
 .rw [decide_eq_true hl,if_pos hl];refine aj.y5 (by simp[jG,aJ,aB]) ?_;obtain⟨E',o,g,τ,ob,k1,k2,⟨r,rfl⟩,hr⟩:=ajj (m:=m) (v:=v) h (fun y hy=>(hk y hy).1) hl hb;apply aj.seq (piece hr _ rfl);have hN:=h.cat r;have hlk:(∀ x∈lkM M (qE b p),x<p)/\(lkM M (qE b p)).length<=100000:=by
   unfold lkM;cases hidx:zC (qE b p) M 0 with
   | none=>simp
   | some j=>
    obtain⟨_,l,hM⟩:=Ar hidx;rw[azL]at hM;have hg:M.getD j ([],[])=(qE b p,l):=by rw[axQ,hM];rfl
    simp only[hg];have:=hk _ (axT hM);exact⟨this.2.2,this.2.1⟩
  generalize lkM M (qE b p)=l at *;apply aj.seq (fr':=mQ v p 0 0 o l.length g ((l.length:Int)-1)) (H':=E++r)
  .have hg:=k2.g;have w1:IntKind.i64.wrap ((l.length:Int)-1)=(l.length:Int)-1:=by rw[wrap_i64 (by omega) (by omega)]
   generalize l.length=N at *;simp only[mQ,jG];apply Pe;simp[-getElem?_pos,go_sem,k1,hg,w1,ak]
  refine(piece (acu (m:=m) (v:=v) hN k1 k2 hlk.1 hp hb hlk.2) _ rfl).mono ?_;rintro⟨ex',fr,E'⟩ ⟨he,I,hfr,hE⟩;simp only at he hfr hE;subst hfr hE;exact⟨he,by simp[mQ,jG,dF,aB],r,rfl⟩
 .rw [decide_eq_false hl,if_neg hl];refine aj.ahV (by simp[jG,aJ,aB]) ?_;exact aj.of (o:=⟨.normal,jG v p 0 0++[(23,.bool false)],E⟩) ⟨0,rfl⟩ ⟨rfl,by simp[jG,dF,aB],[],by simp⟩
end
structure Pc where
 len:Nat
 dist:Nat
 byte:UInt8
deriving DecidableEq
def pcR(x:Pc):AV:=.pc [.int .i64 (x.len:Nat),.int .i64 (x.dist:Nat),.int .u8 (x.byte.toNat:Nat)]
def pcO(x:Pc):AM.Obj:=⟨pcR x,0,some 3,1,false,true,0⟩
def fH(b:List UInt8)(M:Pls)(p:Nat):Pc:=if 3<=(mW b M p).1 then⟨(mW b M p).1,(mW b M p).2,0⟩else⟨0,0,b.getD p 0⟩
def ajl(y:Int):lH X 91 [(2,.int .u8 y)]=some (.agg (.pc [.int .i64 0,.int .i64 0,.int .u8 y])):=by kernel_rfl
def ajm(n d:Int):lH X 91 [(0,.int .i64 n),(1,.int .i64 d)]=some (.agg (.pc [.int .i64 n,.int .i64 d,.int .u8 0])):=by kernel_rfl
def ajn(l:List AV):nV X 91 l=some (.pc l):=by kernel_rfl
def asR(H:AM.Heap)(n d y:Int):bT X H 75 1 [(0,.agg (.pc [.int .i64 n,.int .i64 d,.int .u8 y]))]=some (.ro 1 (.pr 3 [.pc [.int .i64 n,.int .i64 d,.int .u8 y]]) 0,H):=by kernel_rfl
section
variable {c:Nat}{b:List UInt8}{t:Nat}{H:AM.Heap}{ex:List (Nat×Nat)}{M:Pls}
def qX(v:AV)(p q:Nat):AM.Frame:=[(1,.ptr 0 0 0 0),(3,v),(4,.ptr 4 0 0 0),(5,fnV),(6,.int .i64 (p:Nat)),(12,.ptr q 0 0 0)]
def vK(v:AV)(p n i:Nat):AM.Frame:=[(1,.ptr 0 0 0 0),(3,v),(4,.ptr 4 0 0 0),(5,fnV),(6,.int .i64 (p:Nat)),(94,.int .i64 (n:Nat)),(95,.int .i64 (i:Nat))]
def afd{m p n d τ1 τ2:Nat}{y:UInt8}{v:AV}{fr:AM.Frame}{E:AM.Heap}(hf:dF [1,3,4,5,6,7,8] fr=jG v p n d)(h1:E[0]?=some (some (bxN (.ro c (.pb b) τ1) τ2)))(hy:b[p]?=some y)(hb:b.length<=100000) :
 ∃ code,Try.f43.body.bind (ay [1,1,1,1,0,1,0,0,1,0,1,1,0])=some code/\Run X (evT X) 43 m code fr E ⟨.normal,jG v p n d++[(12,.ptr E.length 0 0 0)],E++[some (pcO ⟨0,0,y⟩)]⟩:=by
 refine⟨_,rfl,?_⟩;simp only[bxN]at h1;have g1:aB fr 1=.ptr 0 0 0 0:=by simpa[dF,jG,aB]using congrArg (fun f=>aB f 1) hf
 have g3:aB fr 3=v:=by simpa[dF,jG,aB]using congrArg (fun f=>aB f 3) hf
 have g4:aB fr 4=.ptr 4 0 0 0:=by simpa[dF,jG,aB]using congrArg (fun f=>aB f 4) hf
 have g5:aB fr 5=fnV:=by simpa[dF,jG,aB]using congrArg (fun f=>aB f 5) hf
 have g6:aB fr 6=.int .i64 (p:Nat):=by simpa[dF,jG,aB]using congrArg (fun f=>aB f 6) hf
 have g7:aB fr 7=.int .i64 (n:Nat):=by simpa[dF,jG,aB]using congrArg (fun f=>aB f 7) hf
 have g8:aB fr 8=.int .i64 (d:Nat):=by simpa[dF,jG,aB]using congrArg (fun f=>aB f 8) hf
 have hp:=eX hy;have hpI:(p:Int)<(b.length:Int):=by omega
 simp only[jG,pcO,pcR];apply Pe;simp[-getElem?_pos,go_sem,g1,g3,g4,g5,g6,g7,g8,h1,hy,hp,hpI,ajl,CO,yB,splice,jD,scalars,scalar]
def afe{m p n d q:Nat}{y:UInt8}{v:AV}{E:AM.Heap}(hq:E[q]?=some (some (pcO ⟨0,0,y⟩))):∃ code,Try.f43.body.bind (ay [1,1,1,1,0,1,0,0,1,0,1,1,1,0])=some code/\∃ fr',Run X (evT X) 43 m code (jG v p n d++[(12,.ptr q 0 0 0)]) E ⟨.normal,fr',if 3<=n then upd E q (some (pcO ⟨n,d,0⟩))else E⟩/\dF [1,3,4,5,6,12] fr'=qX v p q:=by
 refine⟨_,rfl,?_⟩;by_cases hn:3<=n
 .rw [if_pos hn];refine⟨qX v p q,?_,by simp[qX,dF,aB]⟩;have hnI:(3:Int)<=(n:Int):=by omega
  apply Run.seq (fr':=jG v p n d++[(12,.ptr q 0 0 0),(84,.bool true)]) (H':=E)
  .simp only[jG];apply Pe;simp[-getElem?_pos,go_sem,hnI,hn]
  refine Run.cond (d:=true) (by simp[jG,aJ,aB]) ?_;simp only[jG,qX,pcO,pcR]at hq ⊢;apply Pe;simp[-getElem?_pos,go_sem,hq,ajm,splice,jD,scalars,scalar]
 .rw [if_neg hn];refine⟨jG v p n d++[(12,.ptr q 0 0 0),(84,.bool false)],?_,by simp[jG,qX,dF,aB]⟩;have hnI:¬ (3:Int)<=(n:Int):=by omega
  apply Run.seq (fr':=jG v p n d++[(12,.ptr q 0 0 0),(84,.bool false)]) (H':=E)
  .simp only[jG];apply Pe;simp[-getElem?_pos,go_sem,hnI,hn]
  exact Run.cond (d:=false) (by simp[jG,aJ,aB]) ⟨0,rfl⟩
def aff{m p q N g:Nat}{x:Pc}{v:AV}{fr:AM.Frame}{E E':AM.Heap}(hf:dF [1,3,4,5,6,12] fr=qX v p q)(hq:E[q]?=some (some (pcO x)))(hA:bG X E 75 v (.ro 1 (.pr 3 [pcR x]) 0)=some (.sl 2 0 N g,E')) :
 ∃ code,Try.f43.body.bind (ay [1,1,1,1,0,1,0,0,1,0,1,1,1,1,0])=some code/\Run X (evT X) 43 m code fr E ⟨.normal,qX (.sl 2 0 N g) p q,E'⟩:=by
 refine⟨_,rfl,?_⟩;have g1:aB fr 1=.ptr 0 0 0 0:=by simpa[dF,qX,aB]using congrArg (fun f=>aB f 1) hf
 have g3:aB fr 3=v:=by simpa[dF,qX,aB]using congrArg (fun f=>aB f 3) hf
 have g4:aB fr 4=.ptr 4 0 0 0:=by simpa[dF,qX,aB]using congrArg (fun f=>aB f 4) hf
 have g5:aB fr 5=fnV:=by simpa[dF,qX,aB]using congrArg (fun f=>aB f 5) hf
 have g6:aB fr 6=.int .i64 (p:Nat):=by simpa[dF,qX,aB]using congrArg (fun f=>aB f 6) hf
 have g7:aB fr 12=.ptr q 0 0 0:=by simpa[dF,qX,aB]using congrArg (fun f=>aB f 12) hf
 simp only[qX,pcO,pcR]at hq hA ⊢;apply Pe;simp[-getElem?_pos,go_sem,g1,g3,g4,g5,g6,g7,hq,hA,asR,ajn,nZ,retag,ak]
def afg{m p q:Nat}{x:Pc}{v:AV}{E:AM.Heap}(hq:E[q]?=some (some (pcO x))) :
 ∃ code,Try.f43.body.bind (ay [1,1,1,1,0,1,0,0,1,0,1,1,1,1,1,0])=some code/\Run X (evT X) 43 m code (qX v p q) E ⟨.normal,vK v p (max 1 x.len) 0,E⟩:=by
 refine⟨_,rfl,?_⟩;simp only[qX,vK,pcO,pcR]at hq ⊢;by_cases h:1<=x.len
 .rw [Nat.max_eq_right h];have hI:(1:Int)<=(x.len:Int):=by omega
  have hI2:max 1 (x.len:Int)=(x.len:Int):=by omega
  have hI3:¬ (x.len:Int)<1:=by omega
  apply Pe;simp[-getElem?_pos,go_sem,hq,h,hI,hI2,hI3,kP];intro hx;omega
 .have h0:x.len=0:=by omega
  rw[h0]at hq ⊢;apply Pe;simp[-getElem?_pos,go_sem,hq,kP]
end
def KC(b:List UInt8)(M:Pls)(p:Nat):Nat->Pls
 | 0=>M
 | k+1=>ntB b (KC b M p k) (p+k)
def rC(b:List UInt8):Nat->Pls->Nat->List Pc
 | 0,_,_=>[]
 | f+1,M,p=>if p<b.length then fH b M p::rC b f (KC b M p (max 1 (fH b M p).len)) (p+max 1 (fH b M p).len)else[]
def CW(M:Pls)(p:Nat):Prop:=M.length<=p/\∀ y∈M,y.1.length=3/\y.2.length<=p/\∀ x∈y.2,x<p
def CW.nt{b:List UInt8}{M:Pls}{p:Nat}(h:CW M p):CW (ntB b M p) (p+1):=by
 unfold ntB;by_cases hl:p+3<=b.length
 .rw [if_pos hl];have hkl:(qE b p).length=3:=by unfold qE;rw[ayc,axW];omega
  cases hidx:zC (qE b p) M 0 with
  | none=>
   rw[Ul hidx];refine⟨by simp;exact h.1,?_⟩;intro y hy;rcases axV.1 hy with hy|hy
   .obtain ⟨a1,a2,a3⟩:=h.2 y hy;exact⟨a1,by omega,fun x hx=>by have:=a3 x hx;omega⟩
   .rw [ayb.1 hy];refine⟨hkl,by simp,fun x hx=>?_⟩;rw[ayb.1 hx];omega
  | some j=>
   obtain⟨_,l,hl2⟩:=Ar hidx;rw[azL]at hl2;rw[Uk hidx hl2];refine⟨by simp;have:=h.1;omega,?_⟩;intro y hy;rcases List.mem_or_eq_of_mem_set hy with hy|rfl
   .obtain ⟨a1,a2,a3⟩:=h.2 y hy;exact⟨a1,by omega,fun x hx=>by have:=a3 x hx;omega⟩
   .obtain ⟨a1,a2,a3⟩:=h.2 _ (axT hl2);refine⟨hkl,by simp;exact a2,fun x hx=>?_⟩;rcases axV.1 hx with hx|hx
    .have:=a3 x hx;omega
    .rw [ayb.1 hx];omega
 .rw [if_neg hl];refine⟨by have:=h.1;omega,fun y hy=>?_⟩;obtain⟨a1,a2,a3⟩:=h.2 y hy;exact⟨a1,by omega,fun x hx=>by have:=a3 x hx;omega⟩
def CW.up{b:List UInt8}{M:Pls}{p:Nat}(h:CW M p):∀ k,CW (KC b M p k) (p+k)
 | 0=>h
 | k+1=>by
  have:=(CW.up (b:=b) h k).nt (b:=b);exact this
def JW(b:List UInt8)(i k:Nat):∀ (f n:Nat),k+n<=b.length->k+fE b i k f n<=b.length
 | 0,n,h=>h
 | f+1,n,h=>by
  unfold fE;split
  .exact JW b i k f (n+1) (by omega)
  .exact h
def Pg(b:List UInt8)(p:Nat)(hp:p<=b.length):∀ (l:List Nat) (s:Nat×Nat),p+s.1<=b.length->s.1<=258->p+(uU b p l s).1<=b.length/\(uU b p l s).1<=258
 | [],s,h,h2=>⟨h,h2⟩
 | x::r,s,h,h2=>by
  unfold uU;split
  .refine Pg b p hp r _ ?_ ?_
   .split
    .exact JW b x p 258 0 (by omega)
    .exact h
   .split
    .exact (Cb b x p 258 0 (by omega)).1
    .exact h2
  .exact ⟨h,h2⟩
def MK{b:List UInt8}{M:Pls}{p:Nat}(hp:p<=b.length):p+(mW b M p).1<=b.length/\(mW b M p).1<=258:=by
 unfold mW;split
 .exact Pg b p hp _ _ (by simpa using hp) (by simp)
 .exact ⟨by simpa using hp,by simp⟩
def yD{b:List UInt8}{M:Pls}{p:Nat}(hp:p<b.length):p+max 1 (fH b M p).len<=b.length:=by
 have:=MK (M:=M) (Nat.le_of_lt hp);unfold fH;split<;>simp only<;>omega
section
variable {c:Nat}{b:List UInt8}{t:Nat}{H:AM.Heap}{ex:List (Nat×Nat)}{M:Pls}
structure PcV (c:Nat) (b:List UInt8) (t:Nat) (E:AM.Heap) (v:AV) (L:List Pc) (ex:List (Nat×Nat)) (M:Pls):Prop where
 nt:NtV c b t E 0 4 3 ex M
 row:∃ g ob,v=.sl 2 0 L.length g/\E[2]?=some (some ob)/\Rw (.pr 3 (L.map pcR)) g ob
 off:∀ x∈ex,x.1≠2
def afh{m p n i:Nat}{v:AV}{E E':AM.Heap}(hp:p<=100000)(hi:i<=100000)(hE:evT X 59 [.int .i64 (p:Nat),.ptr 0 0 0 0,.ptr 4 0 0 0] E=some (.tup [],E')):∃ code,Try.f43.body.bind (ay [1,1,1,1,0,1,0,0,1,0,1,1,1,1,1,1,0,0,1,1])=some code/\Run X (evT X) 43 m code (vK v p n i++[(96,.bool true)]) E ⟨.normal,vK v (p+1) n (i+1),E'⟩:=by
 refine⟨_,rfl,?_⟩;have w1:IntKind.i64.wrap ((p:Int)+1)=((p+1:Nat):Int):=by rw[wrap_i64 (by omega) (by omega)];omega
 have w2:IntKind.i64.wrap ((i:Int)+1)=((i+1:Nat):Int):=by rw[wrap_i64 (by omega) (by omega)];omega
 apply Run.seq (fr':=vK v (p+1) n i) (H':=E')
 .apply Run.block
  .apply Run.seq (fr':=vK v p n i) (H':=E')
   .simp only[vK,fnV];apply Pe;simp[-getElem?_pos,go_sem,hE]
   .generalize p + 1=p1 at *;simp only[vK,fnV];apply Pe;simp[-getElem?_pos,go_sem,w1,ak]
  .simp
 .generalize p + 1=p1 at *;generalize i + 1=i1 at *;simp only[vK,fnV];apply Pe;simp[-getElem?_pos,go_sem,w2]
def PcV.note{p:Nat}{v:AV}{L:List Pc}{E:AM.Heap}(h:PcV c b t E v L ex M)(hM:CW M p)(hp:p<=1400)(hb:b.length<=1400):∃ E' ex',evT X 59 [.int .i64 (p:Nat),.ptr 0 0 0 0,.ptr 4 0 0 0] E=some (.tup [],E')/\PcV c b t E' v L ex' (ntB b M p)/\E.length<=E'.length:=by
 obtain⟨E',ex',h1,h2,h3,h4,h5,h6⟩:=acs (i:=p) h.nt (by omega) (by omega) (fun y hy=>⟨(hM.2 y hy).1,by have:=(hM.2 y hy).2.1;omega⟩) (by have:=hM.1;omega);obtain⟨g,ob,rfl,ho,hw⟩:=h.row;have hl:=eX ho;refine⟨E',ex',h1,⟨h2,⟨g,ob,rfl,?_,hw⟩,?_⟩,h5⟩
 .rw [h6 2 hl (by omega) (by omega) (by omega) (fun hm=>by
   obtain⟨x,hx,hx2⟩:=ayd.1 hm;exact h.off x hx hx2)]
  exact ho
 .intro x hx;obtain⟨k,hk,rfl⟩:=azr.1 hx;by_cases hkl:k<ex.length
  .obtain ⟨g2,hg2⟩:=h3 k _ (axI hkl);rw[axI hk]at hg2;rw[axN hg2];have:=h.off _ (List.getElem_mem hkl);exact this
  .have:=h4 k _ (by omega) (axI hk);omega
def acw{m p n:Nat}{v:AV}{L:List Pc}{E:AM.Heap}(h:PcV c b t E v L ex M)(hM:CW M p)(hp:p+n<=b.length)(hb:b.length<=1400) :
 ∃ code,Try.f43.body.bind (ay [1,1,1,1,0,1,0,0,1,0,1,1,1,1,1,1])=some code/\aj (Goes fun fr E'=>fr=vK v (p+n) n n++[(96,.bool false)]/\∃ ex',PcV c b t E' v L ex' (KC b M p n)) X (evT X) 43 m code (vK v p n 0) E:=by
 refine⟨_,rfl,?_⟩;apply aj.block;refine aj.jP (I:=fun q fr E'=>∃ i ex',i<=n/\q=n-i/\fr=vK v (p+i) n i/\PcV c b t E' v L ex' (KC b M p i)) ?_ (k:=n) ⟨0,ex,by omega,rfl,rfl,h⟩;rintro q fr E' ⟨i,ex',hi,rfl,rfl,hV⟩;by_cases hin:i=n
 .subst hin;refine aj.of (o:=⟨.exit 4,vK v (p+i) i i++[(96,.bool false)],E'⟩) ?_ (.inr ⟨by simp,rfl,rfl,ex',hV⟩);generalize p + i=pi at *;refine⟨0,?_⟩;simp only[vK];simp[-getElem?_pos,go_sem]
 .have hlt:i<n:=by omega
  have rW:(i:Int)<(n:Int):=by omega
  obtain⟨E2,ex2,h1,h2,h3⟩:=hV.note (hM.up i) (by omega) hb;refine aj.of (o:=⟨.normal,vK v (p+i+1) n (i+1),E2⟩) ?_ (.inl ⟨rfl,n-(i+1),by omega,i+1,ex2,by omega,rfl,rfl,h2⟩);apply Run.seq (fr':=vK v (p+i) n i++[(96,.bool true)]) (H':=E')
  .generalize p + i=pi at *;simp only[vK];apply Pe;simp[-getElem?_pos,go_sem,rW,hlt]
  apply Run.seq (fr':=vK v (p+i) n i++[(96,.bool true)]) (H':=E')
  .exact Run.cond (d:=true) (by simp[vK,aJ,aB]) ⟨0,rfl⟩
  exact piece (afh (by omega) (by omega) h1) _ rfl
end
section
variable {c:Nat}{b:List UInt8}{t:Nat}{H:AM.Heap}{ex:List (Nat×Nat)}{M:Pls}
def acy{m p:Nat}{v:AV}{L:List Pc}{E:AM.Heap}(h:PcV c b t E v L ex M)(hM:CW M p)(hp:p<b.length)(hb:b.length<=1400)(hL:L.length<=1400) :
 ∃ code,Try.f43.body.bind (ay [1,1,1,1,0,1,0,0,1])=some code/\aj (Goes fun fr E'=>∃ v' ex',dF [1,3,4,5,6] fr=tJ v' (p+max 1 (fH b M p).len)/\PcV c b t E' v' (L++[fH b M p]) ex' (KC b M p (max 1 (fH b M p).len))) X (evT X) 43 m code (tJ v p++[(18,.bool true)]) E:=by
 refine⟨_,rfl,?_⟩;refine aj.blk ?_ (by
  rintro o ⟨ho,_⟩;rw[ho];simp)
 apply aj.seq (fr':=jG v p 0 0) (H':=E)
 .simp only[tJ,jG];apply Pe;simp[-getElem?_pos,go_sem,ak]
 apply aj.andThen (piece (acv (m:=m) (v:=v) h.nt (fun y hy=>⟨(hM.2 y hy).1,by have:=(hM.2 y hy).2.1;omega,(hM.2 y hy).2.2⟩) (by omega) (by omega)) _ rfl);rintro fr E1 ⟨hfr,r,rfl⟩;obtain⟨y,hy⟩:∃ y,b[p]?=some y:=⟨_,axI hp⟩;have hN1:=h.nt.cat r;obtain⟨τ1,τ2,_,_,h1⟩:=hN1.bx;obtain⟨g,ob,rfl,ho,hw⟩:=h.row;have ho1:(E++r)[2]?=some (some ob):=by rw[axL (eX ho)];exact ho
 generalize E++r=E1 at *;apply aj.seq (piece (afd hfr h1 hy (by omega)) _ rfl);have hN2:=hN1.cat [some (pcO ⟨0,0,y⟩)];have ho2:(E1++[some (pcO ⟨0,0,y⟩)])[2]?=some (some ob):=by rw[axL (eX ho1)];exact ho1
 have hq2:(E1++[some (pcO ⟨0,0,y⟩)])[E1.length]?=some (some (pcO ⟨0,0,y⟩)):=by simp
 have hlt1:=hN1.lt;have hl1:=eX ho1;generalize E1++[some (pcO ⟨0,0,y⟩)]=E2 at *;obtain⟨asT,hc17,asU,ajo,asV⟩:=afe (m:=m) (p:=p) (n:=(mW b M p).1) (d:=(mW b M p).2) (v:=.sl 2 0 L.length g) hq2;apply aj.seq (fr':=asU) (H':=if 3<=(mW b M p).1 then upd E2 E1.length (some (pcO ⟨(mW b M p).1,(mW b M p).2,0⟩))else E2)
 .exact (axN hc17) ▸ ajo
 have h3:∃ E3,(if 3<=(mW b M p).1 then upd E2 E1.length (some (pcO ⟨(mW b M p).1,(mW b M p).2,0⟩))else E2)=E3/\E3[E1.length]?=some (some (pcO (fH b M p)))/\(∀ j,j≠E1.length->E3[j]?=E2[j]?):=by
  refine⟨_,rfl,?_,?_⟩
  .unfold fH;by_cases hn:3<=(mW b M p).1
   .rw [if_pos hn,if_pos hn];exact setAt hq2
   .rw [if_neg hn,if_neg hn,axQ,hy];exact hq2
  .intro j hj;split
   .unfold upd;rw[axU (ax6 hj)]
   .rfl
 obtain⟨E3,hE3,hq3,hk3⟩:=h3;rw[hE3];clear hE3 ajo;have hN3:NtV c b t E3 0 4 3 ex M:=hN2.keep (hk3 0 (by omega)) (hk3 4 (by omega)) (hk3 3 (by omega)) fun x hx=>hk3 x.1 (by have:=hlt1.2.2.2 x hx;omega);have ho3:E3[2]?=some (some ob):=by rw[hk3 2 (by omega)];exact ho2
 obtain⟨ob',hw',hA⟩:=Gl (C:=X) (T:=75) (e:=91) (es:=3) (H:=E3) (o:=2) (m:=[pcR (fH b M p)]) (src:=.ro 1 (.pr 3 [pcR (fH b M p)]) 0) (by simp) (by simp) (by omega) (by simp) (by simp) ho3 hw rfl (by simp;omega);rw[ayB]at hA;apply aj.seq (piece (aff asV hq3 hA) _ rfl);have hq4:(upd E3 2 (some ob'))[E1.length]?=some (some (pcO (fH b M p))):=rV hq3 (by omega);apply aj.seq (piece (afg hq4) _ rfl);have hV:PcV c b t (upd E3 2 (some ob')) (.sl 2 0 (L.length+1) (g+1)) (L++[fH b M p]) ex M:=by
  have hu:∀ j,j≠2->(upd E3 2 (some ob'))[j]?=E3[j]?:=fun j hj=>by unfold upd;rw[axU (ax6 hj)]
  refine⟨hN3.keep (hu 0 (by omega)) (hu 4 (by omega)) (hu 3 (by omega)) fun x hx=>hu x.1 (h.off x hx),⟨g+1,ob',by simp,setAt ho3,by rw[ayy];exact hw'⟩,h.off⟩
 have hfit:=yD (M:=M) hp;refine(piece (acw (m:=m) hV hM hfit hb) _ rfl).mono ?_;rintro⟨xx,fr,E'⟩ ⟨he,hfr2,ex',hV'⟩;simp only at he hfr2 hV';subst hfr2;exact⟨he,_,ex',by simp[vK,tJ,dF,aB],hV'⟩
def afi:KT X 94=true:=by kernel_rfl
def ajp:dh X 91=.pr 3 []:=by kernel_rfl
def Ph{m:Nat}(hb:b.length<=1400):∃ code,Try.f43.body=some code /\
 aj (lG fun fr E'=>∃ g ob,aB fr 2=.sl 2 0 (rC b b.length [] 0).length g/\E'[2]?=some (some ob)/\Rw (.pr 3 ((rC b b.length [] 0).map pcR)) g ob) X (evT X) 43 m code [(0,.ro c (.pb b) 1)] []:=by
 refine⟨_,rfl,?_⟩;apply aj.seq (fr':=[(1,.ptr 0 0 0 0)]) (H':=[some (bxN (.ro c (.pb b) 1) 0),some ⟨.pr 3 [],0,none,0,true,false,0⟩])
 .simp only[bxN];apply Pe;simp[-getElem?_pos,go_sem,ak,rowOf,ajp]
 apply aj.seq (fr':=[(1,.ptr 0 0 0 0),(3,.sl 2 0 0 0)]) (H':=[some (bxN (.ro c (.pb b) 1) 0),some ⟨.pr 3 [],0,none,0,true,false,0⟩,some ⟨.pr 3 [],0,none,0,true,false,0⟩])
 .simp only[bxN];apply Pe;simp[-getElem?_pos,go_sem,ak,rowOf,ajp]
 apply aj.seq (fr':=[(1,.ptr 0 0 0 0),(3,.sl 2 0 0 0),(4,.ptr 4 0 0 0)]) (H':=[some (bxN (.ro c (.pb b) 1) 0),some ⟨.pr 3 [],0,none,0,true,false,0⟩,some ⟨.pr 3 [],0,none,0,true,false,0⟩,some (pmO [] 0),some (bxN (.map 3 0) 0)])
 .simp only[bxN,pmO];apply Pe;simp[-getElem?_pos,go_sem,afi,Dk,uK]
 have hV:PcV c b 1 [some (bxN (.ro c (.pb b) 1) 0),some ⟨.pr 3 [],0,none,0,true,false,0⟩,some ⟨.pr 3 [],0,none,0,true,false,0⟩,some (pmO [] 0),some (bxN (.map 3 0) 0)] (.sl 2 0 0 0) [] [] [] :=
  ⟨⟨⟨1,0,.inr rfl,.inl rfl,rfl⟩,⟨0,.inl rfl,rfl⟩,⟨0,.inl rfl,rfl⟩,trivial,by simp⟩,⟨0,⟨.pr 3 [],0,none,0,true,false,0⟩,rfl,rfl,⟨rfl,rfl,rfl,rfl,rfl⟩⟩,by simp⟩
 generalize [some (bxN (.ro c (.pb b) 1) 0),some (⟨.pr 3 [],0,none,0,true,false,0⟩:AM.Obj),some ⟨.pr 3 [],0,none,0,true,false,0⟩,some (pmO [] 0),some (bxN (.map 3 0) 0)]=E0 at *;apply aj.seq (fr':=[(1,.ptr 0 0 0 0),(3,.sl 2 0 0 0),(4,.ptr 4 0 0 0),(5,fnV)]) (H':=E0)
 .simp only[fnV];apply Pe;simp[-getElem?_pos,go_sem,scalars,scalar]
 apply aj.assoc;apply aj.seq (fr':=tJ (.sl 2 0 0 0) 0) (H':=E0)
 .simp only[tJ,fnV];apply Pe;simp[-getElem?_pos,go_sem]
 apply aj.andThen (P:=fun fr E'=>∃ v ex M,aB fr 3=v/\PcV c b 1 E' v (rC b b.length [] 0) ex M)
 .apply aj.block;refine aj.jP (I:=fun q fr E'=>∃ v L ex M p,dF [1,3,4,5,6] fr=tJ v p/\PcV c b 1 E' v L ex M/\CW M p/\p<=b.length/\b.length<=p+q/\L.length<=p/\L++rC b q M p=rC b b.length [] 0) ?_ (k:=b.length) ⟨_,[],[],[],0,by simp[tJ,dF,aB],hV,⟨by simp,by simp⟩,by omega,by omega,by simp,rfl⟩;rintro q fr E' ⟨v,L,ex,M,p,hfr,hV,hM,hp,hq,hL,he⟩;have g1:aB fr 1=.ptr 0 0 0 0:=by simpa[dF,tJ,aB]using congrArg (fun f=>aB f 1) hfr
  have g3:aB fr 3=v:=by simpa[dF,tJ,aB]using congrArg (fun f=>aB f 3) hfr
  have g4:aB fr 4=.ptr 4 0 0 0:=by simpa[dF,tJ,aB]using congrArg (fun f=>aB f 4) hfr
  have g5:aB fr 5=fnV:=by simpa[dF,tJ,aB]using congrArg (fun f=>aB f 5) hfr
  have g6:aB fr 6=.int .i64 (p:Nat):=by simpa[dF,tJ,aB]using congrArg (fun f=>aB f 6) hfr
  obtain⟨τ1,τ2,_,_,h1⟩:=hV.nt.bx;simp only[bxN]at h1;apply aj.assoc;by_cases hpl:p<b.length
  .have afj:(p:Int)<(b.length:Int):=by omega
   obtain⟨q,rfl⟩:∃ q',q=q'+1:=⟨q-1,by omega⟩;apply aj.seq (fr':=tJ v p++[(18,.bool true)]) (H':=E')
   .simp only[tJ];apply Pe;simp[-getElem?_pos,go_sem,g1,g3,g4,g5,g6,h1,afj,hpl]
   apply aj.seq (fr':=tJ v p++[(18,.bool true)]) (H':=E')
   .exact Run.cond (d:=true) (by simp[tJ,aJ,aB]) ⟨0,rfl⟩
   refine(piece (acy (m:=m) hV hM hpl hb (by omega)) _ rfl).mono ?_;rintro⟨xx,fr2,E2⟩ ⟨hx,v',ex',hfr2,hV2⟩;simp only at hx hfr2 hV2;subst hx;have hfit:=yD (M:=M) hpl;refine .inl ⟨rfl,q,by omega,v',_,ex',_,_,hfr2,hV2,hM.up _,hfit,by omega,by simp;omega,?_⟩;rw[rC,if_pos hpl]at he;rw[<- he];simp
  .have afj:¬ (p:Int)<(b.length:Int):=by omega
   refine aj.of (o:=⟨.exit 0,tJ v p++[(18,.bool false)],E'⟩) ?_ (.inr ⟨by simp,rfl,v,ex,M,by simp[tJ,aB],?_⟩)
   .refine Run.seq (fr':=tJ v p++[(18,.bool false)]) (H':=E') ?_ ?_
    .simp only[tJ];apply Pe;simp[-getElem?_pos,go_sem,g1,g3,g4,g5,g6,h1,afj,hpl]
    .refine Run.bK ?_ (by simp);exact Run.cond (d:=false) (by simp[tJ,aJ,aB]) ⟨0,rfl⟩
   .have hq0:rC b q M p=[]:=by
     cases q with
     | zero=>rfl
     | succ q=>rw[rC,if_neg hpl]
    rw[hq0,ax1]at he;rw[<- he];exact hV
 rintro fr E' ⟨v,ex,M,hv,hV⟩;obtain⟨g,ob,rfl,ho,hw⟩:=hV.row;generalize rC b b.length [] 0=L at *;refine aj.of (o:=⟨.ret,[(2,.sl 2 0 L.length g)],E'⟩) ?_ ⟨rfl,g,ob,rfl,ho,hw⟩;generalize L.length=N at *;refine⟨0,?_⟩;simp[-getElem?_pos,go_sem,hv,ak]
def Z7(L:List Pc):aC (L.map pcR)=[]/\aW (L.map pcR)=[]:=by
 induction L with
 | nil=>exact⟨rfl,rfl⟩
 | cons x L ih=>exact⟨by simp[aC,ih.1,pcR,ids],by simp[aW,ih.2,pcR,tags]⟩
def UF{H:AM.Heap}{a:AV}(ha:fJ H a=some (.pb b))(hb:b.length<=1400):∃ ob,Rw (.pr 3 ((rC b b.length [] 0).map pcR)) 0 ob/\evT X 43 [a] H=some (.sl H.length 0 (rC b b.length [] 0).length 0,H++[some ob]):=by
 obtain⟨c,x,hx⟩:=iy (C:=X) (f:=43) (i:=0) rfl ha (dR 1);obtain⟨code,hc,⟨out,⟨ho,g,ob,h1,h2,hw⟩,hrun⟩⟩:=Ph (m:=0) (c:=c) hb;obtain⟨f1,f2⟩:=Z7 (rC b b.length [] 0);obtain⟨ob',q1,q2⟩:=Ev1.newR (C:=X) (H:=H) (bC X) (n:=(rC b b.length [] 0).length) (es:=3) (l:=(rC b b.length [] 0).map pcR) (rest:=[]) Try.func43 hc hx rfl (by simp[dA]) rfl rfl rfl f1 f2 (by
  rw[agp];refine⟨out,⟨ho,2,g,ob,?_,h2,hw⟩,hrun⟩;show aT X out.fr out.H [.tmp 2]=_;simp[aT,h1])
 exact⟨ob',q1,dI q2⟩
end
structure Px where
 len:Int
 dist:Int
 byte:UInt8
def pxR(x:Px):AV:=.pc [.int .i64 x.len,.int .i64 x.dist,.int .u8 (x.byte.toNat:Nat)]
def pxO(x:Px):AM.Obj:=⟨pxR x,0,some 3,1,false,true,0⟩
def oK(x:Px):Bool:=if x.len=0 then decide (x.dist=0)else decide (3<=x.len)&&(decide (x.len<=258)&&(decide (1<=x.dist)&&(decide (x.dist<=32768)&&decide (x.byte=0))))
def lS(d:Nat):Nat->List UInt8->List UInt8
 | 0,o=>o
 | n+1,o=>lS d n (o++[o.getD (o.length-d) 0])
def kQ:List Px->List UInt8->List UInt8×Int
 | [],o=>(o,0)
 | x::r,o=>if oK x=false then([],2)else if x.len=0 then kQ r (o++[x.byte])else if(o.length:Int)<x.dist then([],5)else kQ r (lS x.dist.toNat x.len.toNat o)
def Z8(x:Px):∃ code,Try.f72.body=some code/\aj (lG fun fr H=>aB fr 2=.bool (oK x)) X (evT X) 72 0 code [(0,.agg (pxR x))] []:=by
 refine⟨_,rfl,?_⟩;simp only[pxR];apply aj.seq (fr':=[(1,.ptr 0 0 0 0)]) (H':=[some (⟨.pc [.int .i64 x.len,.int .i64 x.dist,.int .u8 (x.byte.toNat:Nat)],0,some 3,1,false,true,0⟩:AM.Obj)])
 .apply Pe;simp[-getElem?_pos,go_sem]
 unfold oK;by_cases h0:x.len=0
 .rw [if_pos h0,h0];refine aj.of (o:=⟨.ret,[(2,.bool (decide (x.dist=0)))],[some (⟨.pc [.int .i64 0,.int .i64 x.dist,.int .u8 (x.byte.toNat:Nat)],0,some 3,1,false,true,0⟩:AM.Obj)]⟩) ?_ ⟨rfl,rfl⟩;refine⟨0,?_⟩;by_cases h1:x.dist=0
  .rw [decide_eq_true h1,h1];simp[-getElem?_pos,go_sem]
  .have h1b:(x.dist==0)=false:=by simpa using h1
   rw[decide_eq_false h1];simp[-getElem?_pos,go_sem,h1,h1b]
 .rw [if_neg h0];have h0b:(x.len==0)=false:=by simpa using h0
  refine aj.of (o:=⟨.ret,[(2,.bool (decide (3<=x.len)&&(decide (x.len<=258)&&(decide (1<=x.dist)&&(decide (x.dist<=32768)&&decide (x.byte=0))))))],[some (⟨.pc [.int .i64 x.len,.int .i64 x.dist,.int .u8 (x.byte.toNat:Nat)],0,some 3,1,false,true,0⟩:AM.Obj)]⟩) ?_ ⟨rfl,rfl⟩;refine⟨0,?_⟩;by_cases h1:3<=x.len
  .rw [decide_eq_true h1];by_cases h2:x.len<=258
   .rw [decide_eq_true h2];by_cases h3:1<=x.dist
    .rw [decide_eq_true h3];by_cases h4:x.dist<=32768
     .rw [decide_eq_true h4];by_cases h5:x.byte=0
      .rw [decide_eq_true h5,h5];simp[-getElem?_pos,go_sem,h0,h0b,h1,h2,h3,h4]
      .have h5N:¬ x.byte.toNat=0:=fun h=>h5 (UInt8.toNat_inj.1 h);have h5b:((x.byte.toNat:Int)==0)=false:=by simpa using h5N
       have h5I:¬ (x.byte.toNat:Int)=0:=by omega
       rw[decide_eq_false h5];simp[-getElem?_pos,go_sem,h0,h0b,h1,h2,h3,h4,h5N,h5b,h5I]
     .rw [decide_eq_false h4];simp[-getElem?_pos,go_sem,h0,h0b,h1,h2,h3,h4]
    .rw [decide_eq_false h3];simp[-getElem?_pos,go_sem,h0,h0b,h1,h2,h3]
   .rw [decide_eq_false h2];simp[-getElem?_pos,go_sem,h0,h0b,h1,h2]
  .rw [decide_eq_false h1];simp[-getElem?_pos,go_sem,h0,h0b,h1]
def afk(H:AM.Heap)(x:Px):evT X 72 [.agg (pxR x)] H=some (.bool (oK x),H):=by
 obtain⟨code,hc,⟨out,⟨ho,h2⟩,hr⟩⟩:=Z8 x;have hl:aH X 72 H 0 [.agg (pxR x)]=some ([.agg (pxR x)],[⟨[],[]⟩]):=by have hrw:X.rw 72 0=false:=rfl;simp[aH,hrw,dY,iC,dS,pxR,tags]
 refine dI (Ev1.rU (l:=[.bool (oK x)]) (bC X) Try.func72 hc hl rfl (by simp[dA]) rfl rfl rfl ?_);rw[agy];refine⟨out,⟨ho,?_⟩,hr⟩;show some [aB out.fr 2]=_;rw[h2]
end Go.Proofs.Ytbodincpjijdiaa
