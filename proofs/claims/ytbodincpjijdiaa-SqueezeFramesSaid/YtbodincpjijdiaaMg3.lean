/- WN to IF: texts of this claim, one behind the other; what each shows stands at its head. -/
import Derived.Test.YtbodincpjijdiaaMg2
set_option linter.defProp false
set_option linter.unusedSimpArgs false
set_option linter.unusedVariables false
set_option maxRecDepth 100000
set_option maxHeartbeats 8000000
namespace Go.Proofs.Ytbodincpjijdiaa
open Go.AM
def aZ(l:List Int):List Int:=kX.filter (fun x=>decide (x∈l))
def nH(c:Nat)(b:List UInt8)(a m:Int)(n f l:List Int)(d t tb tn:Nat):AM.Heap :=
 [kY (.int .i64 m) t,kY (.int .i64 a) t,kY (.ro c (.pb b) tb) t,qF 17 f t,qF 16 n t,wP (kX.map (syV (d+6) tn (aZ l) l false)) t]++(aZ l).map fun x=>lQ (dW x l 0) 0 t
def qI(l n f:List Int)(b:List UInt8)(a:Nat):Nat->Nat->Int->(Int×Int×Int)×Nat
 | 0,i,_=>((0,0,5),a+i-1)
 | k+1,i,code=>if 8*b.length<=a+i-1 then((0,0,4),a+i-1)else
  if 0<=2*code+iU b (a+i-1)-f.getD i 0/\2*code+iU b (a+i-1)-f.getD i 0<n.getD i 0 then
   (((dW i l 0).getD (2*code+iU b (a+i-1)-f.getD i 0).toNat 0,i,0),a+i)
  else qI l n f b a k (i+1) (2*code+iU b (a+i-1))
def or_bit(c x:Nat)(h:x<=1):(2*c)||| x=2*c+x:=by
 have:=Nat.shiftLeft_add_eq_or_of_lt (i:=1) (b:=x) (by omega) c;rw[Nat.shiftLeft_eq,Nat.pow_one,ayS]at this;exact this.symm
def Vq{v:Nat}(h:v<256):(AM.bits .u8 (v:Int)).toNat=v:=by
 unfold AM.bits;simp[IntKind.bits];omega
def DK:(AM.bits .u8 1).toNat=1:=by decide
def yc:∀ (l:List Int) (x:Int) (i:Nat),(dW x l i).length=l.count x
 | [],x,i=>by simp[dW]
 | y::r,x,i=>by
  simp only[dW,azA];by_cases h:y=x
  .simp [h,yc r x (i+1)]
  .simp [h,yc r x (i+1)]
def abL(code:Int)(i:Nat):AM.Frame:=[(0,.ptr 0 0 0 0),(1,.ptr 1 0 0 0),(2,.ptr 2 0 0 0),(3,.ptr 3 0 0 0),(4,.ptr 4 0 0 0),(5,.ptr 5 0 0 0),(9,.int .i64 code),(10,.int .i64 (i:Nat))]
def nxO(c:Nat)(b:List UInt8)(m:Int)(n f l:List Int)(t:Nat)(r:(Int×Int×Int)×Nat):AM.Out :=
 ⟨.ret,[(6,.int .i64 r.1.1),(7,.int .i64 r.1.2.1),(8,.int .i64 r.1.2.2)],nH c b (r.2:Nat) m n f l 0 t t t⟩
def Vr(T:Cf)(c t mm:Nat)(b:List UInt8)(a:Nat)(m:Int)(n f l:List Int)(hm:0<=m/\m<=15)(hl:l.length<=320)(hn:n.length=16)(hf:f.length=17)(hnv:∀ i:Nat,i<16->n.getD i 0=ct l i)
 (hfv:∀ i:Nat,i<16->0<=f.getD i 0/\f.getD i 0<100000000)(hb:b.length<=100000)(ha:a<9223372036854775808):∃ code,Try.f94.body=some code /\
 Run X T 94 mm code [(0,.ptr 0 0 0 0),(1,.ptr 1 0 0 0),(2,.ptr 2 0 0 0),(3,.ptr 3 0 0 0),(4,.ptr 4 0 0 0),(5,.ptr 5 0 0 0)] (nH c b (a:Nat) m n f l 0 t t t) (nxO c b m n f l t (qI l n f b a m.toNat 1 0)):=by
 refine⟨_,rfl,?_⟩;have hfr:∀ (code:Int) (i:Nat),abL code i=[(0,.ptr 0 0 0 0),(1,.ptr 1 0 0 0),(2,.ptr 2 0 0 0),(3,.ptr 3 0 0 0),(4,.ptr 4 0 0 0),(5,.ptr 5 0 0 0),(9,.int .i64 code),(10,.int .i64 (i:Nat))]:=fun _ _=>rfl;generalize hSA:kX.map (syV (0+6) t (aZ l) l false)=A;generalize hRA:((aZ l).map fun x=>lQ (dW x l 0) 0 t)=R;have hH:∀ a:Int,nH c b a m n f l 0 t t t=some { p:=.pc [.int .i64 m],g:=0,cap:=some 1,z:=1,row:=false,ids:=true,tg:=t }::some { p:=.pc [.int .i64 a],g:=0,cap:=some 1,z:=1,row:=false,ids:=true,tg:=t }::
  some { p:=.pc [.ro c (.pb b) t],g:=0,cap:=some 1,z:=1,row:=false,ids:=true,tg:=t }::some { p:=.pi .i64 f,g:=0,cap:=some 17,z:=1,row:=false,ids:=false,tg:=t }::some { p:=.pi .i64 n,g:=0,cap:=some 16,z:=1,row:=false,ids:=false,tg:=t }::
  some { p:=.pc A,g:=0,cap:=some 16,z:=1,row:=false,ids:=true,tg:=t }::R:=by
  intro a;rw[<- hSA,<- hRA];rfl
 apply Run.seq
 ·(refine⟨0,?_⟩;conv=>lhs;simp[-getElem?_pos,go_sem,hH])
 apply Run.seq
 ·(refine⟨0,?_⟩;conv=>lhs;simp[-getElem?_pos,go_sem])
 apply Run.seq (fr':=abL 0 1) (H':=nH c b (a:Nat) m n f l 0 t t t)
 .apply Pe;simp[-getElem?_pos,go_sem,hfr,hH]
 have hout:∀ r,jT 0 (nxO c b m n f l t r)=nxO c b m n f l t r:=fun _=>rfl;rw[<- hout];apply Run.block';refine Run.mY (σ:=Nat×Nat×Int) (fun s=>s.1+s.2.1=m.toNat+1/\0<s.2.1/\0<=s.2.2/\s.2.2<2 ^ (s.2.1-1)/\(s.2.1=1\/a+s.2.1-1<=8*b.length)) (fun s=>abL s.2.2 s.2.1) (fun s=>nH c b ((a+s.2.1-1:Nat):Int) m n f l 0 t t t) (fun s=>nxO c b m n f l t (qI l n f b a s.1 s.2.1 s.2.2)) (fun s=>s.1) ?_ (m.toNat,1,0) ⟨rfl,by simp,by simp,by simp,.inl rfl⟩;rintro⟨k,i,code⟩ ⟨hk,hi0,hc0,hc1,hai⟩;simp only at hk hi0 hc0 hc1 hai ⊢;have ha2:a+i-1<9223372036854775808:=by omega
 have hai2:a+i-1+1=a+i:=by omega
 have aso:a+(i+1)-1=a+i:=by omega
 generalize hq:a + i-1=q at *;cases k with
 | zero=>
  right
  refine⟨?_,by simp[nxO]⟩;have hgt:m<(i:Int):=by omega
  unfold nxO qI;rw[hq];apply Run.bK
  .apply Pe;simp[-getElem?_pos,go_sem,hfr,hH,hgt]
  .simp
 | succ k=>
  have hle:¬ (m<(i:Int)):=by omega
  have hq8:((q:Nat):Int).tdiv 8=((q/8:Nat):Int):=by rw[ayR (by omega)];omega
  have Zw:((q:Nat):Int)/8=((q/8:Nat):Int):=by omega
  by_cases hs:8*b.length<=q
  .right
   refine⟨?_,by simp[nxO]⟩;unfold nxO qI;rw[hq,if_pos hs];have hs8:(b.length:Int)<=((q/8:Nat):Int):=by omega
   have w1:IntKind.i64.wrap ((q/8:Nat):Int)=((q/8:Nat):Int):=wrap_i64 (by omega) (by omega);generalize q/8=q8 at *;apply Run.bK
   .apply Pe;simp[-getElem?_pos,go_sem,hfr,hH,hle,hq8,Zw,w1,hs8]
   .simp
  .have abM:i<=15:=by omega
   have hq0:q/8<b.length:=by omega
   obtain⟨y,hget⟩:∃ y,b[q/8]?=some y:=⟨_,axI hq0⟩;have hrb:iU b q=((y.toNat/2 ^ (q%8)%2:Nat):Int):=by unfold iU;rw[axQ,hget];rfl
   have hr8:q%8<8:=by omega
   have e2:((q:Nat):Int).tmod 8=((q%8:Nat):Int):=by rw[ay9 (by omega)];omega
   have e4:((q:Nat):Int)%8=((q%8:Nat):Int):=by omega
   have w1:IntKind.i64.wrap ((q/8:Nat):Int)=((q/8:Nat):Int):=wrap_i64 (by omega) (by omega);have w2:IntKind.i64.wrap ((q%8:Nat):Int)=((q%8:Nat):Int):=wrap_i64 (by omega) (by omega);have hs8:¬ (b.length:Int)<=((q/8:Nat):Int):=by omega
   have w9:IntKind.i64.wrap ((q:Nat)+1)=((a+i:Nat):Int):=by rw[wrap_i64 (by omega) (by omega)];omega
   have hv:((y.toNat:Nat):Int).fdiv (2 ^ (q%8))=((y.toNat/2 ^ (q%8):Nat):Int):=by rw[ayH _ (by exact Int.le_of_lt (azU (by omega)))];simp
   have hvl:y.toNat/2 ^ (q%8)<256:=Nat.lt_of_le_of_lt (az5 _ _) y.toNat_lt;have hm8:min (q%8) IntKind.u8.bits=q%8:=by simp[IntKind.bits];omega
   have aiQ:min (q%8) 8=q%8:=by omega
   obtain⟨cn,rfl⟩:∃ cn:Nat,code=(cn:Int):=⟨code.toNat,by omega⟩;have hp:(2:Int) ^ (i-1)<=2 ^ 14:=by
    have:=ayo (n:=2) (by omega) (show i-1<=14 by omega)
    exact_mod_cast this
   have hcn:cn<16384:=by omega
   have hp2:(2:Int) ^ i=2*2 ^ (i-1):=by
    conv=>lhs;rw[show i=(i-1)+1 by omega]
    rw[aAg];omega
   generalize q % 8=r8 at *;generalize axB:q/8=q8 at *;generalize y.toNat/2 ^ r8=v at *;obtain⟨x,hx⟩:∃ x,x=v%2:=⟨_,rfl⟩;have hx1:x<=1:=by omega
   rw[<- hx]at hrb;have hr0:¬ ((r8:Int)<0):=by omega
   have hb8:=Vq hvl;have hU1:IntKind.u8.wrap ((v&&& 1:Nat):Int)=(x:Int):=by rw[az9,<- hx,wrap_u8 (by omega) (by omega)]
   have hU2:IntKind.u8.wrap ((v:Int)%2)=(x:Int):=by rw[wrap_u8 (by omega) (by omega)];omega
   have hX:IntKind.i64.wrap (x:Int)=(x:Int):=wrap_i64 (by omega) (by omega);have hXb:=bits_nat (v:=x) (by omega);obtain⟨c2,hc2⟩:∃ c2,c2=2*cn:=⟨_,rfl⟩;have hC2:IntKind.i64.wrap ((cn:Int)*2)=(c2:Int):=by rw[wrap_i64 (by omega) (by omega)];omega
   have aeQ:=bits_nat (v:=c2) (by omega);have hmn:min 1 IntKind.i64.bits=1:=by decide
   obtain⟨c3,hc3⟩:∃ c3,c3=2*cn+x:=⟨_,rfl⟩;have hC3:IntKind.i64.wrap ((c2||| x:Nat):Int)=(c3:Int):=by rw[hc2,or_bit cn x hx1,<- hc3,wrap_i64 (by omega) (by omega)]
   have hAnd:IntKind.u8.wrap ((AM.bits .u8 (v:Int)&&& AM.bits .u8 1).toNat:Nat)=(x:Int):=by rw[azY,hb8,DK,hU1]
   have hOr:IntKind.i64.wrap ((AM.bits .i64 (c2:Int)||| AM.bits .i64 (x:Int)).toNat:Nat)=(c3:Int):=by rw[az7,aeQ,hXb,hC3]
   simp only[go_sem]at hAnd hOr;have hcode:2*(cn:Int)+iU b q=(c3:Int):=by rw[hrb];omega
   have hdec:qI l n f b a (k+1) i (cn:Int)=if 0<=(c3:Int)-f.getD i 0/\(c3:Int)-f.getD i 0<n.getD i 0 then
    (((dW i l 0).getD ((c3:Int)-f.getD i 0).toNat 0,(i:Int),0),a+i)else qI l n f b a k (i+1) (c3:Int):=by
    conv=>lhs;unfold qI
    rw[hq,if_neg hs,hcode]
   have hfi:=hfv i (by omega);have hni:=hnv i (by omega);have hfg:f[i]?=some (f.getD i 0):=by rw[axQ,axI (by omega)];rfl
   have hng:n[i]?=some (n.getD i 0):=by rw[axQ,axI (by omega)];rfl
   have abN:(i:Int)<17:=by omega
   have Vs:(i:Int)<16:=by omega
   have hK:IntKind.i64.wrap ((c3:Int)-f.getD i 0)=(c3:Int)-f.getD i 0:=wrap_i64 (by omega) (by omega);have hi1:IntKind.i64.wrap ((i:Int)+1)=(i:Int)+1:=wrap_i64 (by omega) (by omega);have asq:(c3:Int)<2 ^ i:=by omega
   generalize f.getD i 0=fi at *;generalize axC:n.getD i 0=ni at *;by_cases hhit:0<=(c3:Int)-fi/\(c3:Int)-fi<ni
   .right
    refine⟨?_,by simp[nxO]⟩;rw[hdec,if_pos hhit];obtain⟨hk0,hkn⟩:=hhit;have hin:(i:Int)∈l:=by have h1:(dW i l 0).length=l.count (i:Int):=yc l i 0;unfold ct at hni;exact List.count_pos_iff.1 (by omega)
    have hlen:((dW i l 0).length:Int)=ni:=by rw[yc,hni];rfl
    have hpr:(i:Int)∈aZ l:=by unfold aZ;rw[ay5];exact⟨axT (FT (by omega)),by simpa using hin⟩
    have hA:A[i]?=some (.sl (6+(aZ l).idxOf (i:Int)) 0 (dW i l 0).length 0):=by rw[<- hSA,axP,FT (by omega)];simp[syV,hpr]
    have hAl:A.length=16:=by rw[<- hSA];simp[kX]
    have hRr:R[(aZ l).idxOf (i:Int)]?=some (lQ (dW i l 0) 0 t):=by rw[<- hRA,axP,axI (ayE hpr)];simp
    generalize (aZ l).idxOf (i:Int)=j at *;have hrow:∀ a:Int,(nH c b a m n f l 0 t t t)[6+j]?=some (lQ (dW i l 0) 0 t):=by intro a;rw[hH a,azH];simpa using hRr
    have hkI:((c3:Int)-fi).toNat<(dW i l 0).length:=by omega
    obtain⟨z,hz⟩:∃ z,(dW i l 0)[((c3:Int)-fi).toNat]?=some z:=⟨_,axI hkI⟩;have hzd:(dW i l 0).getD ((c3:Int)-fi).toNat 0=z:=by rw[axQ,hz];rfl
    rw[hzd];have hkl:(c3:Int)-fi<((dW i l 0).length:Int):=by omega
    unfold nxO;generalize dW i l 0=ps at *;generalize 6 + j=o at *;simp only[hH]at hrow;unfold lQ at hrow;generalize hkk:(c3:Int)-fi=kk at hk0 hkn hz hkl;have hK2:IntKind.i64.wrap ((c3:Int)-fi)=kk:=by rw[hK,hkk]
    apply Run.bK
    .apply Run.block
     .apply Run.seq
      ·(refine⟨0,?_⟩;conv=>lhs;simp[-getElem?_pos,go_sem,hfr,hH,hle])
      apply Run.seq
      ·(refine⟨0,?_⟩;conv=>lhs;simp[-getElem?_pos,go_sem,hq8,Zw,w1,hs8])
      apply Run.seq
      ·(refine⟨0,?_⟩;conv=>lhs;simp[-getElem?_pos,go_sem,hq8,Zw,w1,hs8,hget,e2,e4,w2,hr0,hm8,aiQ,hv,hb8,DK,hAnd,hOr,hU1,hU2,hX,hmn,hC2,aeQ,hXb,hC3,hq0])
      apply Run.seq
      ·(refine⟨0,?_⟩;conv=>lhs;simp[-getElem?_pos,go_sem,w9])
      apply Run.seq
      ·(refine⟨0,?_⟩;conv=>lhs;simp[-getElem?_pos,go_sem,abN,hfg,hK2,hf])
      apply Pe;simp[-getElem?_pos,go_sem,hH,hk0,hkn,Vs,hng,hn,hA,hAl,hrow,hz,hkl]
     .simp
    .simp
   .left
    refine⟨(k,i+1,(c3:Int)),⟨by simp;omega,by simp,by simp,by simpa using asq,.inr (by simp;omega)⟩,?_,by rw[hdec,if_neg hhit],by simp⟩;simp only[aso];apply Run.seq (fr':=abL (c3:Int) i++[(11,.int .i64 ((c3:Int)-fi)),(50,.bool false)]) (H':=nH c b ((a+i:Nat):Int) m n f l 0 t t t)
    .apply Run.block
     .apply Run.seq
      ·(refine⟨0,?_⟩;conv=>lhs;simp[-getElem?_pos,go_sem,hfr,hH,hle])
      apply Run.seq
      ·(refine⟨0,?_⟩;conv=>lhs;simp[-getElem?_pos,go_sem,hq8,Zw,w1,hs8])
      apply Run.seq
      ·(refine⟨0,?_⟩;conv=>lhs;simp[-getElem?_pos,go_sem,hq8,Zw,w1,hs8,hget,e2,e4,w2,hr0,hm8,aiQ,hv,hb8,DK,hAnd,hOr,hU1,hU2,hX,hmn,hC2,aeQ,hXb,hC3,hq0])
      apply Run.seq
      ·(refine⟨0,?_⟩;conv=>lhs;simp[-getElem?_pos,go_sem,w9])
      apply Run.seq
      ·(refine⟨0,?_⟩;conv=>lhs;simp[-getElem?_pos,go_sem,abN,hfg,hK,hf])
      by_cases hk0:0<=(c3:Int)-fi
      .have hkn:¬ ((c3:Int)-fi<ni):=fun z=>hhit ⟨hk0,z⟩;generalize (c3:Int)-fi=kk at *;apply Pe;simp[-getElem?_pos,go_sem,hfr,hH,hk0,hkn,Vs,hng,hn]
      .generalize (c3:Int)-fi=kk at *;apply Pe;simp[-getElem?_pos,go_sem,hfr,hH,hk0]
     .simp
    .apply Pe;simp[-getElem?_pos,go_sem,hfr,hH,hi1]
def zX(H:AM.Heap):∀ (L acc:List Nat) (n:Nat),L.length<n->(∀ o∈L,∃ ob,H[o]?=some (some ob)/\ob.ids=false)->L.Nodup->(∀ o∈L,o∉acc)->reach H n L acc=acc++L
 | [],acc,n,_,_,_,_=>by rw[uY];simp
 | o::r,acc,0,h,_,_,_=>by simp at h
 | o::r,acc,n+1,h,h1,h2,h3=>by
  obtain⟨ob,ho,hob⟩:=h1 o (by simp);have hc:acc.contains o=false:=by rw[Bool.eq_false_iff];intro z;exact h3 o (by simp) (azB.1 z)
  rw[reach,hc];simp only[axZ,if_false,ho,hob,ax8];rw[zX H r (acc++[o]) n (by simpa using h) (fun a ha=>h1 a (aya _ ha)) (azl.1 h2).2 (fun a ha z=>by
   rcases axV.1 z with z|z
   .exact h3 a (aya _ ha) z
   .simp only[ayb]at z;subst z;exact(azl.1 h2).1 ha)]
  simp
def LH(d tn:Nat)(ks l:List Int)(gr:Bool):∀ zs:List Int,aC (zs.map (syV d tn ks l gr))=(zs.filter fun x=>decide (x∈ks)).map fun x=>d+ks.idxOf x
 | []=>rfl
 | z::r=>by
  simp only[ax9,aC,LH d tn ks l gr r,azo];by_cases h:z∈ks
  .simp [syV,h,ids]
  .simp [syV,h,ids]
def Hg(d tn:Nat)(ks l:List Int)(gr:Bool):∀ zs:List Int,∀ t∈aW (zs.map (syV d tn ks l gr)),t=tn
 | [],t,h=>by simp[aW]at h
 | z::r,t,h=>by
  simp only[ax9,aW,axV]at h;rcases h with h|h
  .by_cases hz:z∈ks
   .simp [syV,hz,tags]at h
   .simpa [syV,hz,tags]using h
  .exact Hg d tn ks l gr r t h
def JC{g:Int->Nat}:∀ (zs:List Int) (x:Int) (k:Nat),x∈zs->(∀ y∈zs,g y=g x->y=x)->AM.idxOf (zs.map g) (g x) k=some (k+zs.idxOf x)
 | [],x,k,h,_=>by simp at h
 | z::r,x,k,h,hg=>by
  simp only[ax9,AM.idxOf];by_cases e:z=x
  .subst e;simp
  .have e2:¬ g z=g x:=fun w=>e (hg z (by simp) w);rw[if_neg e2,JC r x (k+1) ((ax2.1 h).resolve_left fun w=>e w.symm) (fun y hy=>hg y (aya _ hy)),List.idxOf_cons];have e3:(z==x)=false:=by simpa using e
   rw[e3];simp;omega
def JD:∀ (P L:List Nat) (o k:Nat),o∉P->AM.idxOf (P++L) o k=AM.idxOf L o (k+P.length)
 | [],L,o,k,_=>rfl
 | p::P,L,o,k,h=>by
  simp only[ax2,not_or]at h;simp only[ayj,AM.idxOf,axY];rw[if_neg (fun z=>h.1 z.symm),JD P L o (k+1) h.2];congr 1;omega
def Hl:∀ l:List Nat,strike l []=[]
 | []=>rfl
 | o::r=>by simp only[strike,upd,List.set_nil];exact Hl r
def DL{l:List Int}(hf:fine l=true)(x:Int):x∈aZ l ↔ x∈l:=by
 unfold aZ;rw[ay5];constructor
 .exact fun h=>by simpa using h.2
 .intro h;have hx:0<=x/\x<=15:=by have:=ax5.1 hf x h;simpa using this
  exact⟨axT (EZ hx),by simpa using h⟩
def Ep(l:List Int):(aZ l).Nodup:=List.Pairwise.filter _ (by decide)
def DN(l:List Int):(aZ l).length<=16:=ayO (List.length_filter_le _ _) (by decide)
def Zx{ks l:List Int}(hk:Kq ks l):(kX.filter fun x=>decide (x∈ks))=aZ l:=by
 unfold aZ;refine List.filter_congr fun x _=>?_;simp[hk.2 x]
def jc(ρ:Nat->Nat->Option (Nat×Nat))(τ:Nat->Nat)(g:Int->AV):∀ zs:List Int,bU ρ τ (zs.map g)=zs.map fun x=>ren ρ τ (g x)
 | []=>rfl
 | z::r=>by simp only[ax9,bU,jc ρ τ g r]
def Zy{c:Nat}{b:List UInt8}{a m:Int}{n f ks l:List Int}(hf:fine l=true)(hk:Kq ks l) :
 reach (rdH c b a n f ks l m) aA [5,1,0,3,2,4] []=[5,1,0,3,2,4]++(aZ l).map fun x=>6+ks.idxOf x:=by
 have h0:(rdH c b a n f ks l m)[0]?=some (kY (.ro c (.pb b) 2) 0):=rfl;have h1:(rdH c b a n f ks l m)[1]?=some (kY (.int .i64 a) 0):=rfl;have h2:(rdH c b a n f ks l m)[2]?=some (qF 16 n 0):=rfl;have h3:(rdH c b a n f ks l m)[3]?=some (qF 17 f 0):=rfl;have h4:(rdH c b a n f ks l m)[4]?=some (wP (kX.map (syV 6 0 ks l true)) 0):=rfl;have h5:(rdH c b a n f ks l m)[5]?=some (kY (.int .i64 m) 0):=rfl;have hL:aC (kX.map (syV 6 0 ks l true))=(aZ l).map fun x=>6+ks.idxOf x:=by rw[LH,Zx hk]
 have hmem:∀ x,x∈aZ l->x∈ks:=fun x hx=>(hk.2 x).2 ((DL hf x).1 hx);have hinj:∀ x∈aZ l,∀ y∈aZ l,6+ks.idxOf x=6+ks.idxOf y->x=y:=by
  intro x hx y hy e;have h1:=azO (ayE (hmem x hx));have h2:=azO (ayE (hmem y hy));have e':ks.idxOf x=ks.idxOf y:=by omega
  rw[<- h1,<- h2];simp only[e']
 have Ox:∀ o∈(aZ l).map (fun x=>6+ks.idxOf x),∃ ob,(rdH c b a n f ks l m)[o]?=some (some ob)/\ob.ids=false:=by intro o ho;obtain⟨x,hx,rfl⟩:=ayd.1 ho;have hlt:=ayE (hmem x hx);refine⟨⟨.pi .i64 (dW x l 0),(dW x l 0).length-1,.none,(if(dW x l 0).length<=1 then 0 else 1),true,false,0⟩,?_,rfl⟩;unfold rdH;rw[axS (by simp),axP];simp only[axY,ax3];rw[show 6+ks.idxOf x-6=ks.idxOf x by omega,axI hlt];simp[lQ]
 have hnd:((aZ l).map fun x=>6+ks.idxOf x).Nodup:=by rw[ayu,azD];refine(ayu.1 (Ep l)).imp_of_mem ?_;intro x y hx hy hne e;exact hne (hinj x hx y hy e)
 have hend:=zX (rdH c b a n f ks l m) ((aZ l).map fun x=>6+ks.idxOf x) [5,1,0,3,2,4] 99994 (by have:=DN l;simp;omega) Ox hnd (by
  intro o ho;obtain⟨x,_,rfl⟩:=ayd.1 ho;simp;omega)
 show reach _ (99994+1+1+1+1+1+1) [5,1,0,3,2,4] []=_;rw[<- hL]at hend ⊢;generalize rdH c b a n f ks l m=H at *;unfold kY at h0 h1 h5;unfold qF at h2 h3;unfold wP at h4;simp[reach,h0,h1,h2,h3,h4,h5,ids,aC,hend]
def oG:∀ (P L:List (Option AM.Obj)),au (P++L)=au P++au L
 | [],L=>rfl
 | some ob::r,L=>by simp only[ayj,au,oG r L,ayq]
 | none::r,L=>by simp only[ayj,au,oG r L]
def uN(t:Nat)(h:Int->List Int)(g:Int->Nat):∀ zs:List Int,∀ u∈au (zs.map fun x=>lQ (h x) (g x) t),u=t
 | [],u,hu=>by simp[au]at hu
 | z::r,u,hu=>by
  simp only[ax9,lQ,au,dn,axV]at hu;rcases hu with hu|hu
  .simpa using hu
  .exact uN t h g r u hu
def abO{c:Nat}{b:List UInt8}{a m:Int}{n f ks l:List Int}(hf:fine l=true)(hk:Kq ks l) :
 wrap [] [] [⟨[],[1]⟩,⟨[],[2]⟩,⟨[],[]⟩,⟨[],[]⟩] (.fn 94 [.ptr 5 0 0 0,.ptr 1 0 0 0,.ptr 0 0 0 0,.ptr 3 0 0 0,.ptr 2 0 0 0,.ptr 4 0 0 0]) (rdH c b a n f ks l m) =
  some (.fn 94 [.ptr 0 0 0 0,.ptr 1 0 0 0,.ptr 2 0 0 0,.ptr 3 0 0 0,.ptr 4 0 0 0,.ptr 5 0 0 0],nH c b a m n f l 0 0 2 0):=by
 have hr:=Zy (c:=c) (b:=b) (a:=a) (m:=m) (n:=n) (f:=f) hf hk;have hmem:∀ x,x∈aZ l->x∈ks:=fun x hx=>(hk.2 x).2 ((DL hf x).1 hx);have hinj:∀ x∈aZ l,∀ y∈aZ l,6+ks.idxOf x=6+ks.idxOf y->x=y:=by
  intro x hx y hy e;have h1:=azO (ayE (hmem x hx));have h2:=azO (ayE (hmem y hy));have e':ks.idxOf x=ks.idxOf y:=by omega
  rw[<- h1,<- h2];simp only[e']
 have hat:∀ x∈aZ l,(rdH c b a n f ks l m)[6+ks.idxOf x]?=some (lQ (dW x l 0) ((dW x l 0).length-1) 0):=by intro x hx;have hlt:=ayE (hmem x hx);unfold rdH;rw[axS (by simp),axP];simp only[axY,ax3];rw[show 6+ks.idxOf x-6=ks.idxOf x by omega,axI hlt];simp
 have h0:(rdH c b a n f ks l m)[0]?=some (kY (.ro c (.pb b) 2) 0):=rfl;have h1:(rdH c b a n f ks l m)[1]?=some (kY (.int .i64 a) 0):=rfl;have h2:(rdH c b a n f ks l m)[2]?=some (qF 16 n 0):=rfl;have h3:(rdH c b a n f ks l m)[3]?=some (qF 17 f 0):=rfl;have h4:(rdH c b a n f ks l m)[4]?=some (wP (kX.map (syV 6 0 ks l true)) 0):=rfl;have h5:(rdH c b a n f ks l m)[5]?=some (kY (.int .i64 m) 0):=rfl;have hrows:((aZ l).map fun x=>6+ks.idxOf x).map (aP (rdH c b a n f ks l m))=(aZ l).map fun x=>lQ (dW x l 0) ((dW x l 0).length-1) 0:=by rw[ay1];refine ayC fun x hx=>?_;simp only[Function.comp_apply,aP,hat x hx,ayv]
 generalize hLd:(aZ l).map (fun x=>6 + ks.idxOf x)=L at *;have hnew:(reach (rdH c b a n f ks l m) aA (List.range ([]:List Nat).length++ids (.fn 94 [.ptr 5 0 0 0,.ptr 1 0 0 0,.ptr 0 0 0 0,.ptr 3 0 0 0,.ptr 2 0 0 0,.ptr 4 0 0 0])) [])=[5,1,0,3,2,4]++L:=hr;have hfil:([5,1,0,3,2,4]++L).filter (fun o=>decide (([]:List Nat).length<=o))=[5,1,0,3,2,4]++L:=aze.2 fun o _=>by simp
 have hob:([5,1,0,3,2,4]++L).map (aP (rdH c b a n f ks l m))=[kY (.int .i64 m) 0,kY (.int .i64 a) 0,kY (.ro c (.pb b) 2) 0,qF 17 f 0,qF 16 n 0,wP (kX.map (syV 6 0 ks l true)) 0]++(aZ l).map fun x=>lQ (dW x l 0) ((dW x l 0).length-1) 0:=by rw[ayy,hrows];simp[aP,h0,h1,h2,h3,h4,h5]
 have hidx:∀ x∈aZ l,AM.idxOf ([5,1,0,3,2,4]++L) (6+ks.idxOf x) 0=some (6+(aZ l).idxOf x):=by intro x hxp;rw[JD _ _ _ _ (by simp;omega),<- hLd];exact JC (g:=fun x=>6+ks.idxOf x) (aZ l) x 6 hxp fun y hy e=>hinj y hy x hxp e
 have i0:AM.idxOf ([5,1,0,3,2,4]++L) 0 0=some 2:=rfl;have i1:AM.idxOf ([5,1,0,3,2,4]++L) 1 0=some 1:=rfl;have i2:AM.idxOf ([5,1,0,3,2,4]++L) 2 0=some 4:=rfl;have i3:AM.idxOf ([5,1,0,3,2,4]++L) 3 0=some 3:=rfl;have i4:AM.idxOf ([5,1,0,3,2,4]++L) 4 0=some 5:=rfl;have i5:AM.idxOf ([5,1,0,3,2,4]++L) 5 0=some 0:=rfl;generalize [5,1,0,3,2,4]++L=NW at *;generalize hτ:bW [⟨[],[1]⟩,⟨[],[2]⟩,⟨[],[]⟩,⟨[],[]⟩]=τ at *;have τ0:τ 0=0:=by rw[<- hτ];rfl
 have τ2:τ 2=2:=by rw[<- hτ];rfl
 generalize hρ:aY [] [] NW (rdH c b a n f ks l m)=ρ at *
 -- the callee's names in the caller's
 have hsy:∀ x∈kX,ren ρ τ (syV 6 0 ks l true x)=syV (0+6) 0 (aZ l) l false x:=by
  intro x hx16;by_cases hx:x∈ks
  .have hxp:x∈aZ l:=(DL hf x).2 ((hk.2 x).1 hx);have hlive:live (rdH c b a n f ks l m) (6+ks.idxOf x) ((dW x l 0).length-1)=some ⟨.pi .i64 (dW x l 0),(dW x l 0).length-1,.none,(if(dW x l 0).length<=1 then 0 else 1),true,false,0⟩:=by unfold live;rw[hat x hxp];simp[lQ]
   simp[syV,hx,hxp,ren,<- hρ,aY,hlive,hidx x hxp]
  .have hxp:x∉aZ l:=fun z=>hx (hmem x z);simp[syV,hx,hxp,ren,τ0]
 have hlv:∀ o ob,(rdH c b a n f ks l m)[o]?=some (some ob)->ob.g=0->∀ k,AM.idxOf NW o 0=some k->ρ o 0=some (k,0):=by intro o ob ho hg k hk;simp[<- hρ,aY,live,ho,hg,hk]
 have g0:=hlv 0 _ h0 rfl 2 i0;have g1:=hlv 1 _ h1 rfl 1 i1;have g2:=hlv 2 _ h2 rfl 4 i2;have g3:=hlv 3 _ h3 rfl 3 i3;have g4:=hlv 4 _ h4 rfl 5 i4;have g5:=hlv 5 _ h5 rfl 0 i5;have hmap:NW.map (fun o=>(aP (rdH c b a n f ks l m) o).map (aQ ρ τ 0))=nH c b a m n f l 0 0 2 0:=by
  have e:NW.map (fun o=>(aP (rdH c b a n f ks l m) o).map (aQ ρ τ 0))=(NW.map (aP (rdH c b a n f ks l m))).map (Option.map (aQ ρ τ 0)):=by rw[ay1];rfl
  rw[e,hob];unfold nH;rw[ayy];congr 1
  .simp only[ax9,aye,kY,qF,wP,axM,aQ,ren,bU,jc,τ0,τ2];rw[ayC hsy]
  .rw [ay1];refine ayC fun x hx=>?_;simp only[Function.comp_apply,lQ,axM,aQ,ren,τ0]
 have Yr:∀ u∈au (NW.map (aP (rdH c b a n f ks l m))),u=0\/u=2:=by
  intro u hu;rw[hob,oG,axV]at hu;rcases hu with hu|hu
  .simp only[kY,qF,wP,au,dn,if_true,tags,aW,axV,ax1,ax8]at hu;simp only[axZ,if_false,ayj,ax8,ax2,ayK,or_false]at hu;rcases hu with hu|hu|hu|hu
   .exact .inr hu
   .exact .inl hu
   .exact .inl hu
   .exact .inl (Hg _ _ _ _ _ _ u hu)
  .exact .inl (uN 0 _ _ _ u hu)
 unfold wrap;rw[hnew];simp only[hfil];rw[if_pos ?_]
 .simp only[hρ,hτ,hmap,bP,Hl,ax8];simp only[ren,bU,g0,g1,g2,g3,g4,g5]
 .rw [ax5];intro u hu;simp only[ax3,ay4,aye,au,ax1,axV,tags,aW,ayK,false_or]at hu;rcases Yr u hu with rfl|rfl<;>rfl
def Vt(c c2:Nat)(l:List Int)(b:List UInt8)(a:Int)(hl:l.length<=320)(hf:fine l=true) :
 Ev1 X 93 [.ro c (.pi .i64 l) 1,.ro c2 (.pb b) 2,.int .i64 a] [] (.fn 94 [.ptr 0 0 0 0,.ptr 1 0 0 0,.ptr 2 0 0 0,.ptr 3 0 0 0,.ptr 4 0 0 0,.ptr 5 0 0 0],nH c2 b a (mxL 0 l) (bQ l).1 (eY (bQ l).1) l 0 0 2 0):=by
 obtain⟨code,hbody,o,hr,ks,hk,rfl⟩:=MG c c2 l b a hl hf;have hw:=abO (c:=c2) (b:=b) (a:=a) (m:=mxL 0 l) (n:=(bQ l).1) (f:=eY (bQ l).1) hf hk;refine Ev1.of (l:=[.fn 94 [.ptr 5 0 0 0,.ptr 1 0 0 0,.ptr 0 0 0 0,.ptr 3 0 0 0,.ptr 2 0 0 0,.ptr 4 0 0 0]]) (out:=⟨.ret,[(6,.fn 94 [.ptr 5 0 0 0,.ptr 1 0 0 0,.ptr 0 0 0 0,.ptr 3 0 0 0,.ptr 2 0 0 0,.ptr 4 0 0 0])],rdH c2 b a (bQ l).1 (eY (bQ l).1) ks l (mxL 0 l)⟩) Ho Try.func93 hbody (show aH X 93 [] 0 [.ro c (.pi .i64 l) 1,.ro c2 (.pb b) 2,.int .i64 a]=some ([.ro c (.pi .i64 l) 1,.ro c2 (.pb b) 2,.int .i64 a],[⟨[],[1]⟩,⟨[],[2]⟩,⟨[],[]⟩]) from rfl) ?_ ?_ (.inr rfl) ?_ ?_
 .rw [show aC [.ro c (.pi .i64 l) 1,.ro c2 (.pb b) 2,.int .i64 a]=[] from rfl,dH];rfl
 .rw [show aC [.ro c (.pi .i64 l) 1,.ro c2 (.pb b) 2,.int .i64 a]=[] from rfl,dH];exact hr
 .rfl
 .rw [show aC [.ro c (.pi .i64 l) 1,.ro c2 (.pb b) 2,.int .i64 a]=[] from rfl,dH];exact hw
def Q7:∀ (zs:List Int),zs.Nodup->zs.map (fun x=>zs.idxOf x)=List.range zs.length:=by
 intro zs h;refine List.ext_getElem (by simp) fun j h1 h2=>?_;simp only[ayB,azV]at h1 h2;simp only[List.getElem_map,List.getElem_range];exact List.Nodup.idxOf_getElem h j h1
def piL(d r:Nat):List Nat:=[d,d+1,d+2,d+3,d+4,d+5]++(List.range r).map fun k=>d+6+k
def Zz(d tn:Nat)(l:List Int):aC (kX.map (syV (d+6) tn (aZ l) l false))=(List.range (aZ l).length).map fun k=>d+6+k:=by
 rw[LH];have e:(kX.filter fun x=>decide (x∈aZ l))=aZ l:=by unfold aZ;refine List.filter_congr fun x hx=>?_;simp[ay5,hx]
 rw[e,<- Q7 (aZ l) (Ep l),ay1];rfl
section
variable {c:Nat}{b:List UInt8}{a m:Int}{n f l:List Int}{t tb tn:Nat}{pre:AM.Heap}
def zn(k:Nat):(pre++nH c b a m n f l pre.length t tb tn)[pre.length+k]?=(nH c b a m n f l pre.length t tb tn)[k]?:=by
 rw[axS (by omega)];congr 1;omega
def Hq(d:Nat){k:Nat}(hk:k<(aZ l).length):(nH c b a m n f l d t tb tn)[6+k]?=some (lQ (dW ((aZ l)[k]) l 0) 0 t):=by
 unfold nH;rw[axS (by simp),axP];simp only[axY,ax3];rw[show 6+k-6=k by omega,axI hk];rfl
def sZ(d:Nat):(nH c b a m n f l d t tb tn).length=6+(aZ l).length:=by
 unfold nH;simp;omega
def ZA:reach (pre++nH c b a m n f l pre.length t tb tn) aA [pre.length,pre.length+1,pre.length+2,pre.length+3,pre.length+4,pre.length+5] []=piL pre.length (aZ l).length:=by
 have h0:(pre++nH c b a m n f l pre.length t tb tn)[pre.length]?=some (kY (.int .i64 m) t):=zn 0;have h1:(pre++nH c b a m n f l pre.length t tb tn)[pre.length+1]?=some (kY (.int .i64 a) t):=zn 1;have h2:(pre++nH c b a m n f l pre.length t tb tn)[pre.length+2]?=some (kY (.ro c (.pb b) tb) t):=zn 2;have h3:(pre++nH c b a m n f l pre.length t tb tn)[pre.length+3]?=some (qF 17 f t):=zn 3;have h4:(pre++nH c b a m n f l pre.length t tb tn)[pre.length+4]?=some (qF 16 n t):=zn 4;have h5:(pre++nH c b a m n f l pre.length t tb tn)[pre.length+5]?=some (wP (kX.map (syV (pre.length+6) tn (aZ l) l false)) t):=zn 5;have Ox:∀ o∈(List.range (aZ l).length).map (fun k=>pre.length+6+k),∃ ob,(pre++nH c b a m n f l pre.length t tb tn)[o]?=some (some ob)/\ob.ids=false:=by intro o ho;obtain⟨k,hk,rfl⟩:=ayd.1 ho;rw[show pre.length+6+k=pre.length+(6+k)by omega,zn,Hq _ (ayh.1 hk)];exact⟨_,rfl,rfl⟩
 have hnd:((List.range (aZ l).length).map fun k=>pre.length+6+k).Nodup:=by rw[ayu,azD];refine(ayu.1 az0).imp ?_;intro x y hne e;exact hne (by omega)
 have hend:=zX (pre++nH c b a m n f l pre.length t tb tn) ((List.range (aZ l).length).map fun k=>pre.length+6+k) [pre.length,pre.length+1,pre.length+2,pre.length+3,pre.length+4,pre.length+5] 99994 (by have:=DN l;simp;omega) Ox hnd (by
  intro o ho;obtain⟨k,_,rfl⟩:=ayd.1 ho;simp;omega)
 unfold piL;show reach _ (99994+1+1+1+1+1+1) _ []=_;rw[<- Zz pre.length tn l]at hend ⊢;generalize pre++nH c b a m n f l pre.length t tb tn=H at *;generalize pre.length=d at *;unfold kY at h0 h1 h2;unfold qF at h3 h4;unfold wP at h5;simp[reach,h0,h1,h2,h3,h4,h5,ids,aC,hend]
def zY(d r:Nat):piL d r=(List.range (6+r)).map fun k=>d+k:=by
 unfold piL;rw[List.range_add,ayy,ay1];congr 1;refine ayC fun k _=>?_;simp only[Function.comp_apply];omega
def Oy(d:Nat):∀ (r k s:Nat),k<r->AM.idxOf ((List.range r).map fun j=>d+j) (d+k) s=some (s+k):=by
 intro r k s hk;have:∀ (zs:List Nat) (s:Nat),k∈zs->AM.idxOf (zs.map fun j=>d+j) (d+k) s=some (s+zs.idxOf k):=by
  intro zs;induction zs with
  | nil=>intro s h;simp at h
  | cons z r ih=>
   intro s h;simp only[ax9,AM.idxOf];by_cases e:z=k
   .subst e;simp
   .rw [if_neg (by omega),ih (s+1) ((ax2.1 h).resolve_left fun w=>e w.symm),List.idxOf_cons];have e3:(z==k)=false:=by simpa using e
    rw[e3];simp;omega
 rw[this (List.range r) s (ayh.2 hk)];congr 2;have h:=List.Nodup.idxOf_getElem az0 k (by simpa using hk);simpa using h
def TS{k:Nat}(hk:k<6+(aZ l).length):∃ ob,(pre++nH c b a m n f l pre.length t tb tn)[pre.length+k]?=some (some ob)/\ob.g=0:=by
 rw[zn];by_cases h6:k<6
 .have:k=0\/k=1\/k=2\/k=3\/k=4\/k=5:=by omega
  rcases this with rfl|rfl|rfl|rfl|rfl|rfl<;>exact⟨_,rfl,rfl⟩
 .obtain ⟨j,rfl⟩:∃ j,k=6+j:=⟨k-6,by omega⟩;rw[Hq _ (by omega)];exact⟨_,rfl,rfl⟩
def TT{k:Nat}(hk:k<6+(aZ l).length):bV (pre++nH c b a m n f l pre.length t tb tn) (piL pre.length (aZ l).length) (pre.length+k) 0=some (k,0):=by
 obtain⟨ob,h,hg⟩:=TS (c:=c) (b:=b) (a:=a) (m:=m) (n:=n) (f:=f) (t:=t) (tb:=tb) (tn:=tn) (pre:=pre) hk;unfold bV live;rw[h];simp only[hg,if_true];rw[zY,Oy _ _ _ _ hk];simp
def ZB(ρ:Nat->Nat->Option (Nat×Nat))(τ:Nat->Nat)(d d2 t2 tb2 tn2:Nat)(hρ:∀ k,k<(aZ l).length->ρ (d+6+k) 0=some (d2+6+k,0))(ht:τ t=t2)(htb:τ tb=tb2)(htn:τ tn=tn2) :
 (nH c b a m n f l d t tb tn).map (Option.map (aQ ρ τ 0))=nH c b a m n f l d2 t2 tb2 tn2:=by
 have hsy:∀ x∈kX,ren ρ τ (syV (d+6) tn (aZ l) l false x)=syV (d2+6) tn2 (aZ l) l false x:=by
  intro x _;by_cases hx:x∈aZ l
  .have h:=hρ _ (ayE hx);simp[syV,hx,ren,h]
  .simp [syV,hx,ren,htn]
 unfold nH;rw[ayy];congr 1
 .simp only[ax9,aye,kY,qF,wP,axM,aQ,ren,bU,jc,ht,htb];rw[ayC hsy]
 .rw [ay1];refine ayC fun x hx=>?_;simp only[Function.comp_apply,lQ,axM,aQ,ren,ht]
def abP(u:Nat):(piL pre.length (aZ l).length).map (fun o=>(aP (pre++nH c b a m n f l pre.length t tb tn) o).map (aQ (bV (pre++nH c b a m n f l pre.length t tb tn) (piL pre.length (aZ l).length)) (fun _=>u) 0))=nH c b a m n f l 0 u u u:=by
 have hob:(piL pre.length (aZ l).length).map (aP (pre++nH c b a m n f l pre.length t tb tn))=nH c b a m n f l pre.length t tb tn:=by
  rw[zY,ay1];refine ayL fun j=>?_;by_cases hj:j<6+(aZ l).length
  .rw [axP,ayJ hj];simp only[axM,Function.comp_apply,aP,zn];rw[axI (by rw[sZ];exact hj)];rfl
  .rw [ax0 (by simp;omega),ax0 (by rw[sZ];omega)]
 have e:∀ F:AM.Obj->AM.Obj,(piL pre.length (aZ l).length).map (fun o=>(aP (pre++nH c b a m n f l pre.length t tb tn) o).map F)=((piL pre.length (aZ l).length).map (aP (pre++nH c b a m n f l pre.length t tb tn))).map (Option.map F):=by intro F;rw[ay1];rfl
 rw[e,hob];refine ZB _ _ pre.length 0 u u u (fun k hk=>?_) rfl rfl rfl;rw[show pre.length+6+k=pre.length+(6+k)by omega,TT (by omega)]
end
def Oz(H:AM.Heap):∀ (L acc:List Nat) (n:Nat),(∀ o∈L,o∈acc)->reach H n L acc=acc
 | [],acc,n,_=>uY H acc n
 | o::r,acc,0,_=>rfl
 | o::r,acc,n+1,h=>by
  have hc:acc.contains o=true:=azB.2 (h o (by simp));rw[reach,hc];simp only[if_true];exact Oz H r acc n fun a ha=>h a (aya _ ha)
def JE(H:AM.Heap):∀ (L M acc:List Nat) (n:Nat),L.length<n->(∀ o∈L,∃ ob,H[o]?=some (some ob)/\ob.ids=false)->L.Nodup->(∀ o∈L,o∉acc)->(∀ o∈M,o∈acc++L)->reach H n (L++M) acc=acc++L
 | [],M,acc,n,_,_,_,_,h=>by rw[ax8,Oz H M acc n (by simpa using h)];simp
 | o::r,M,acc,0,h,_,_,_,_=>by simp at h
 | o::r,M,acc,n+1,h,h1,h2,h3,h4=>by
  obtain⟨ob,ho,hob⟩:=h1 o (by simp);have hc:acc.contains o=false:=by rw[Bool.eq_false_iff];intro z;exact h3 o (by simp) (azB.1 z)
  rw[ayj,reach,hc];simp only[axZ,if_false,ho,hob,ax8];rw[JE H r M (acc++[o]) n (by simpa using h) (fun a ha=>h1 a (aya _ ha)) (azl.1 h2).2 (fun a ha z=>by
   rcases axV.1 z with z|z
   .exact h3 a (aya _ ha) z
   .simp only[ayb]at z;subst z;exact(azl.1 h2).1 ha) (fun a ha=>by simpa using h4 a ha)]
  simp
section
variable {c:Nat}{b:List UInt8}{a m:Int}{n f l:List Int}{t tb tn:Nat}{pre:AM.Heap}
def abQ(u:Nat):∀ o∈reach (nH c b a m n f l 0 u u u) aA (List.range (6+(aZ l).length)) [],o<6+(aZ l).length:=by
 have h0:(nH c b a m n f l 0 u u u)[0]?=some (kY (.int .i64 m) u):=rfl;have h1:(nH c b a m n f l 0 u u u)[1]?=some (kY (.int .i64 a) u):=rfl;have h2:(nH c b a m n f l 0 u u u)[2]?=some (kY (.ro c (.pb b) u) u):=rfl;have h3:(nH c b a m n f l 0 u u u)[3]?=some (qF 17 f u):=rfl;have h4:(nH c b a m n f l 0 u u u)[4]?=some (qF 16 n u):=rfl;have h5:(nH c b a m n f l 0 u u u)[5]?=some (wP (kX.map (syV (0+6) u (aZ l) l false)) u):=rfl;have Ox:∀ o∈(List.range (aZ l).length).map (fun k=>0+6+k),∃ ob,(nH c b a m n f l 0 u u u)[o]?=some (some ob)/\ob.ids=false:=by intro o ho;obtain⟨k,hk,rfl⟩:=ayd.1 ho;rw[show 0+6+k=6+k by omega,Hq _ (ayh.1 hk)];exact⟨_,rfl,rfl⟩
 have hnd:((List.range (aZ l).length).map fun k=>0+6+k).Nodup:=by rw[ayu,azD];refine(ayu.1 az0).imp ?_;intro x y hne e;exact hne (by omega)
 have hr:List.range (6+(aZ l).length)=[0,1,2,3,4,5]++(List.range (aZ l).length).map fun k=>0+6+k:=by have:=zY 0 (aZ l).length;unfold piL at this;rw[show(List.range (6+(aZ l).length))=(List.range (6+(aZ l).length)).map fun k=>0+k by simp];exact this.symm
 have hend:=JE (nH c b a m n f l 0 u u u) ((List.range (aZ l).length).map fun k=>0+6+k) ((List.range (aZ l).length).map fun k=>0+6+k) [0,1,2,3,4,5] 99994 (by have:=DN l;simp;omega) Ox hnd (by
  intro o ho;obtain⟨k,_,rfl⟩:=ayd.1 ho;simp;omega) (fun o ho=>ay2 _ ho)
 intro o ho;have hall:reach (nH c b a m n f l 0 u u u) aA (List.range (6+(aZ l).length)) []=List.range (6+(aZ l).length):=by rw[hr];show reach _ (99994+1+1+1+1+1+1) _ []=_;rw[<- Zz 0 u l]at hend ⊢;generalize nH c b a m n f l 0 u u u=H at *;unfold kY at h0 h1 h2;unfold qF at h3 h4;unfold wP at h5;simp[reach,h0,h1,h2,h3,h4,h5,ids,aC];simpa using hend
 rw[hall]at ho;exact ayh.1 ho
end
def Es{ρ:Nat->Nat->Option (Nat×Nat)}{τ:Nat->Nat}{H:AM.Heap}{π:List Nat}{H1:AM.Heap}{d:Nat}(F:Nat->Option AM.Obj):∀ (j k:Nat) (B:AM.Heap),
 (∀ i,k<=i->i<k+j->((aP H1 i).map fun ob=>aQ ρ τ (dK H π i ob.g) ob)=F i)->∀ x:Nat,(bP ρ τ H π H1 k (List.range' (d+k) j) B)[x]?=if d+k<=x/\x<d+k+j/\x<B.length then some (F (x-d))else B[x]?
 | 0,k,B,_,x=>by
  simp only[List.range'_zero,bP];rw[if_neg (by omega)]
 | j+1,k,B,h,x=>by
  simp only[azZ,bP];rw[show d+k+1=d+(k+1)by omega,Es F j (k+1) _ (fun i h1 h2=>h i (by omega) (by omega)) x,h k (axO _) (by omega)];simp only[upd,az6,azk];by_cases e:x=d+k
  .subst e;rw[if_neg (by omega),if_pos rfl];by_cases hl:d+k<B.length
   .rw [if_pos hl,if_pos (by omega),show d+k-d=k by omega]
   .rw [if_neg hl,if_neg (by omega),ax0 (by omega)]
  .have e2:¬ d+k=x:=fun z=>e z.symm;by_cases hc:d+(k+1)<=x/\x<d+(k+1)+j/\x<B.length
   .rw [if_pos hc,if_pos (by omega)]
   .rw [if_neg hc,if_neg e2,if_neg (by omega)]
def BO:∀ L:List Nat,(∀ u∈L,u=0\/u=2)->bY L=some (if 2∈L then 2 else 0)
 | [],_=>rfl
 | u::r,h=>by
  rw[bY,BO r fun v hv=>h v (aya _ hv)];rcases h u (by simp)with rfl|rfl
  .by_cases hr:2∈r<;>simp[hr,dJ]
  .by_cases hr:2∈r<;>simp[hr,dJ]
section
variable {c:Nat}{b:List UInt8}{a m:Int}{n f l:List Int}{t tn:Nat}{pre:AM.Heap}
def TU(d tb:Nat):∀ u∈au (nH c b a m n f l d t tb tn),u=t\/u=tb\/u=tn:=by
 intro u hu;unfold nH at hu;rw[oG,axV]at hu;rcases hu with hu|hu
 .simp only[kY,qF,wP,au,dn,if_true,tags,aW,axV,ax1,ax8]at hu;simp only[axZ,if_false,ayj,ax8,ax2,ayK,or_false]at hu;rcases hu with hu|hu|hu|hu
  .exact .inr (.inl hu)
  .exact .inl hu
  .exact .inl hu
  .exact .inr (.inr (Hg _ _ _ _ _ _ u hu))
 .exact .inl (uN t _ _ _ u hu)
def ZC(d tb:Nat):tb∈au (nH c b a m n f l d t tb tn):=by
 unfold nH;rw[oG,axV]
 left
 simp[kY,qF,wP,au,dn,tags,aW]
def aiR(d tb k:Nat):∀ ob,aP (nH c b a m n f l d t tb tn) k=some ob->ob.g=0:=by
 intro ob h;by_cases hk:k<6+(aZ l).length
 .by_cases h6:k<6
  .have:k=0\/k=1\/k=2\/k=3\/k=4\/k=5:=by omega
   rcases this with rfl|rfl|rfl|rfl|rfl|rfl<;>(cases h;rfl)
  .obtain ⟨j,rfl⟩:∃ j,k=6+j:=⟨k-6,by omega⟩;unfold aP at h;rw[Hq _ (by omega)]at h;cases h;rfl
 .unfold aP at h;rw[ax0 (by rw[sZ];omega)]at h;cases h
end
def cap6(d:Nat):List AV:=[.ptr d 0 0 0,.ptr (d+1) 0 0 0,.ptr (d+2) 0 0 0,.ptr (d+3) 0 0 0,.ptr (d+4) 0 0 0,.ptr (d+5) 0 0 0]
section
variable {c:Nat}{b:List UInt8}{m:Int}{n f l:List Int}{t tn:Nat}{pre:AM.Heap}
def Vu(a a2:Int)(v:Int×Int×Int)(ht:t=0\/t=2)(htn:tn=0\/tn=2) :
 wrap (pre++nH c b a m n f l pre.length t 2 tn) (piL pre.length (aZ l).length) ([⟨[],[]⟩,⟨[],[]⟩,⟨[],[]⟩,⟨[],[]⟩,⟨[],[]⟩,⟨[],[]⟩]++[⟨[],au ((piL pre.length (aZ l).length).map (aP (pre++nH c b a m n f l pre.length t 2 tn)))⟩]) (t3 v) (nH c b a2 m n f l 0 7 7 7) =
  some (t3 v,pre++nH c b a2 m n f l pre.length 2 2 2):=by
 have hpl:(piL pre.length (aZ l).length).length=6+(aZ l).length:=by rw[zY];simp
 have hob:(piL pre.length (aZ l).length).map (aP (pre++nH c b a m n f l pre.length t 2 tn))=nH c b a m n f l pre.length t 2 tn:=by
  rw[zY,ay1];refine ayL fun j=>?_;by_cases hj:j<6+(aZ l).length
  .rw [axP,ayJ hj];simp only[axM,Function.comp_apply,aP,zn];rw[axI (by rw[sZ];exact hj)];rfl
  .rw [ax0 (by simp;omega),ax0 (by rw[sZ];omega)]
 have hjt:bY (au (nH c b a m n f l pre.length t 2 tn))=some 2:=by
  rw[BO _ fun u hu=>?_,if_pos (ZC _ _)];rcases TU _ _ u hu with rfl|rfl|rfl
  .exact ht
  .exact .inr rfl
  .exact htn
 rw[hob];have hb7:dP ([⟨[],[]⟩,⟨[],[]⟩,⟨[],[]⟩,⟨[],[]⟩,⟨[],[]⟩,⟨[],[]⟩]++[⟨[],au (nH c b a m n f l pre.length t 2 tn)⟩]) 7=some 2:=by show bY (au (nH c b a m n f l pre.length t 2 tn))=some 2;exact hjt
 have hg7:dN ([⟨[],[]⟩,⟨[],[]⟩,⟨[],[]⟩,⟨[],[]⟩,⟨[],[]⟩,⟨[],[]⟩]++[⟨[],au (nH c b a m n f l pre.length t 2 tn)⟩]) 7=[]:=rfl;have hT7:bW ([⟨[],[]⟩,⟨[],[]⟩,⟨[],[]⟩,⟨[],[]⟩,⟨[],[]⟩,⟨[],[]⟩]++[⟨[],au (nH c b a m n f l pre.length t 2 tn)⟩]) 7=2:=by unfold bW;rw[hb7];rfl
 have hg0:dN ([⟨[],[]⟩,⟨[],[]⟩,⟨[],[]⟩,⟨[],[]⟩,⟨[],[]⟩,⟨[],[]⟩]++[⟨[],au (nH c b a m n f l pre.length t 2 tn)⟩]) 0=[]:=rfl;generalize ([⟨[],[]⟩,⟨[],[]⟩,⟨[],[]⟩,⟨[],[]⟩,⟨[],[]⟩,⟨[],[]⟩]++[⟨[],au (nH c b a m n f l pre.length t 2 tn)⟩]:List fB)=aN at *;have jQ:ids (t3 v)=[]:=rfl;have htg:tags (t3 v)=[]:=rfl;have hK:=abQ (c:=c) (b:=b) (a:=a2) (m:=m) (n:=n) (f:=f) (l:=l) 7;unfold wrap;rw[jQ,ax1,hpl,htg];generalize reach (nH c b a2 m n f l 0 7 7 7) aA (List.range (6+(aZ l).length)) []=K at hK ⊢;have hfil:K.filter (fun o=>decide (6+(aZ l).length<=o))=[]:=by rw[List.filter_eq_nil_iff];intro o ho;have:=hK o ho;simp;omega
 simp only[hfil];have hr2:(List.range (6+(aZ l).length)).map (aP (nH c b a2 m n f l 0 7 7 7))=nH c b a2 m n f l 0 7 7 7:=by
  refine ayL fun j=>?_;by_cases hj:j<6+(aZ l).length
  .rw [axP,ayJ hj];simp only[axM,aP];rw[axI (by rw[sZ];exact hj)];rfl
  .rw [ax0 (by simp;omega),ax0 (by rw[sZ];omega)]
 rw[hr2];have hu7:∀ u∈au (nH c b a2 m n f l 0 7 7 7),u=7:=fun u hu=>by rcases TU _ _ u hu with h|h|h<;>exact h
 have hpi:∀ i,i<6+(aZ l).length->(piL pre.length (aZ l).length)[i]?=some (pre.length+i):=by intro i hi;rw[zY,axP,ayJ hi];rfl
 have hgen:∀ i,i<6+(aZ l).length->dK (pre++nH c b a m n f l pre.length t 2 tn) (piL pre.length (aZ l).length) i 0=0:=by intro i hi;obtain⟨ob,h1,h2⟩:=TS (c:=c) (b:=b) (a:=a) (m:=m) (n:=n) (f:=f) (t:=t) (tb:=2) (tn:=tn) (pre:=pre) hi;unfold dK;rw[hpi i hi];simp[aP,h1,h2]
 have hlen:(pre++nH c b a m n f l pre.length t 2 tn).length=pre.length+(6+(aZ l).length):=by rw[axR,sZ]
 have hρ:∀ k,k<(aZ l).length->aY (pre++nH c b a m n f l pre.length t 2 tn) (piL pre.length (aZ l).length) [] (nH c b a2 m n f l 0 7 7 7) (0+6+k) 0=some (pre.length+6+k,0):=by intro k hk;rw[show 0+6+k=6+k by omega];unfold aY live;rw[Hq _ hk];simp only[lQ,if_true];rw[hpl,if_pos (by omega),hpi _ (by omega),axM,hgen _ (by omega)];rw[show pre.length+(6+k)=pre.length+6+k by omega]
 have Yn:=ZB (c:=c) (b:=b) (a:=a2) (m:=m) (n:=n) (f:=f) (l:=l) (t:=7) (tb:=7) (tn:=7) _ (bW aN) 0 pre.length 2 2 2 hρ hT7 hT7 hT7;generalize hρd:aY (pre++nH c b a m n f l pre.length t 2 tn) (piL pre.length (aZ l).length) [] (nH c b a2 m n f l 0 7 7 7)=ρ at *;have hF:∀ i,0<=i->i<0+(6+(aZ l).length)->((aP (nH c b a2 m n f l 0 7 7 7) i).map fun ob=>aQ ρ (bW aN) (dK (pre++nH c b a m n f l pre.length t 2 tn) (piL pre.length (aZ l).length) i ob.g) ob)=aP (nH c b a2 m n f l pre.length 2 2 2) i:=by
  intro i _ hi;have e:(aP (nH c b a2 m n f l 0 7 7 7) i).map (fun ob=>aQ ρ (bW aN) (dK (pre++nH c b a m n f l pre.length t 2 tn) (piL pre.length (aZ l).length) i ob.g) ob)=(aP (nH c b a2 m n f l 0 7 7 7) i).map (aQ ρ (bW aN) 0):=by
   cases ho:aP (nH c b a2 m n f l 0 7 7 7) i with
   | none=>rfl
   | some ob=>
    have:=aiR _ _ _ ob ho;simp only[axM,this,hgen i (by omega)]
  rw[e,<- Yn];unfold aP;rw[axP];cases (nH c b a2 m n f l 0 7 7 7)[i]?<;>rfl
 have hput:bP ρ (bW aN) (pre++nH c b a m n f l pre.length t 2 tn) (piL pre.length (aZ l).length) (nH c b a2 m n f l 0 7 7 7) 0 (piL pre.length (aZ l).length) (pre++nH c b a m n f l pre.length t 2 tn)=pre++nH c b a2 m n f l pre.length 2 2 2:=by
  have hrg:piL pre.length (aZ l).length=List.range' (pre.length+0) (6+(aZ l).length):=by rw[zY,List.range'_eq_map_range];rfl
  conv=>lhs;arg 7;rw[hrg]
  refine ayL fun x=>?_;rw[Es (fun i=>aP (nH c b a2 m n f l pre.length 2 2 2) i) _ 0 _ hF x,hlen];by_cases h1:x<pre.length
  .rw [if_neg (by omega),axL h1,axL h1]
  .rw [axS (by omega),axS (by omega)];by_cases h2:x<pre.length+(6+(aZ l).length)
   .rw [if_pos (by omega)];unfold aP;rw[axI (by rw[sZ];omega)];rfl
   .rw [if_neg (by omega),ax0 (by rw[sZ];omega),ax0 (by rw[sZ];omega)]
 rw[if_pos ?_]
 .have hfm:([]++au (nH c b a2 m n f l 0 7 7 7)++au (List.map (aP (nH c b a2 m n f l 0 7 7 7)) [])).flatMap (dN aN)=[]:=by rw[ay6];intro u hu;simp only[aye,au,ax1,ax8]at hu;rw[hu7 u hu,hg7]
  rw[hfm,hput];simp[strike,t3,ren,bU]
 .rw [ax5];intro u hu;simp only[aye,au,ax1,ax8]at hu;rw[hu7 u hu,hb7];rfl
def abR(a:Nat)(hm:0<=m/\m<=15)(hl:l.length<=320)(hn:n.length=16)(hf:f.length=17)(hnv:∀ i:Nat,i<16->n.getD i 0=ct l i)
 (hfv:∀ i:Nat,i<16->0<=f.getD i 0/\f.getD i 0<100000000)(hb:b.length<=100000)(ha:a<9223372036854775808)(ht:t=0\/t=2)(htn:tn=0\/tn=2) :
 Ev1 X 94 (cap6 pre.length) (pre++nH c b (a:Nat) m n f l pre.length t 2 tn) (t3 (qI l n f b a m.toNat 1 0).1,pre++nH c b ((qI l n f b a m.toNat 1 0).2:Nat) m n f l pre.length 2 2 2):=by
 obtain⟨code,hbody,hr⟩:=Vr (fun _ _ _=>.none) c 7 (piL pre.length (aZ l).length).length b a m n f l hm hl hn hf hnv hfv hb ha;have hw:=Vu (c:=c) (b:=b) (m:=m) (n:=n) (f:=f) (l:=l) (t:=t) (tn:=tn) (pre:=pre) (a:Int) (((qI l n f b a m.toNat 1 0).2:Nat):Int) (qI l n f b a m.toNat 1 0).1 ht htn;have hre:reach (pre++nH c b (a:Nat) m n f l pre.length t 2 tn) aA (aC (cap6 pre.length)) []=piL pre.length (aZ l).length:=ZA;have hin:=abP (c:=c) (b:=b) (a:=(a:Int)) (m:=m) (n:=n) (f:=f) (l:=l) (t:=t) (tb:=2) (tn:=tn) (pre:=pre) 7;have hat:=fun k hk=>TT (c:=c) (b:=b) (a:=(a:Int)) (m:=m) (n:=n) (f:=f) (l:=l) (t:=t) (tb:=2) (tn:=tn) (pre:=pre) (k:=k) hk;have a0:=hat 0 (by omega);have a1:=hat 1 (by omega);have a2:=hat 2 (by omega);have a3:=hat 3 (by omega);have a4:=hat 4 (by omega);have a5:=hat 5 (by omega);rw[ay0]at a0;unfold nxO at hr;generalize qI l n f b a m.toNat 1 0=r at *;refine Ev1.of (l:=[.int .i64 r.1.1,.int .i64 r.1.2.1,.int .i64 r.1.2.2]) (out:=⟨.ret,[(6,.int .i64 r.1.1),(7,.int .i64 r.1.2.1),(8,.int .i64 r.1.2.2)],nH c b (r.2:Nat) m n f l 0 7 7 7⟩) Below.none Try.func94 hbody
  (show aH X 94 (pre++nH c b (a:Nat) m n f l pre.length t 2 tn) 0 (cap6 pre.length)=some (cap6 pre.length,[⟨[],[]⟩,⟨[],[]⟩,⟨[],[]⟩,⟨[],[]⟩,⟨[],[]⟩,⟨[],[]⟩]) from rfl) ?_ ?_ (.inr rfl) ?_ ?_
 .rfl
 .rw [hre];have e:bU (bV (pre++nH c b (a:Nat) m n f l pre.length t 2 tn) (piL pre.length (aZ l).length)) (fun t=>t) (cap6 pre.length)=cap6 0:=by simp only[cap6,bU,ren,a0,a1,a2,a3,a4,a5]
  rw[e];have hx:=hin;rw[show((cap6 pre.length).length+1)=7 from rfl,hx];exact hr
 .rfl
 .rw [hre];exact hw
end
def OA(l:List Int)(hl:l.length<=320)(hf:fine l=true)(i:Nat)(hi:0<i)(c':Int):∀ (todo pre cs:List Int),l=pre++todo->cs.length=todo.length ->
 (∀ j,j<todo.length->cs.getD j 0=code l (pre.length+j)) ->
 jR i c' todo cs pre.length=if fst (ct l) i+ct pre i<=c' then((dW i todo pre.length)[(c'-fst (ct l) i-ct pre i).toNat]?).map Int.toNat else none
 | [],pre,cs,e,hc,hx=>by simp[jR,dW]
 | x::r,pre,[],e,hc,hx=>by simp at hc
 | x::r,pre,y::cs,e,hc,hx=>by
  have hat:l.getD pre.length 0=x:=by rw[e];simp
  have htk:l.take pre.length=pre:=by rw[e];simp
  have hy:y=code l pre.length:=by have:=hx 0 (by simp);simpa using this
  have ea:ct (pre++[x]) i=ct pre i+if x=(i:Int)then 1 else 0:=by unfold ct;rw[aAc,azA];by_cases q:x=(i:Int)<;>simp[q]
  have ih:=OA l hl hf i hi c' r (pre++[x]) cs (by simp[e]) (by simpa using hc) (fun j hj=>by
   have:=hx (j+1) (by simpa using hj);rw[az4]at this;rw[this];congr 1;simp only[axR,axY,ax3];omega)
  rw[show(pre++[x]).length=pre.length+1 by simp,ea]at ih;unfold jR dW;by_cases hxi:x=(i:Int)
  .have hyv:y=fst (ct l) i+ct pre i:=by rw[hy];simp only[code,hat,htk];rw[if_pos (by omega),hxi];rfl
   rw[if_pos hxi];by_cases hyc:y=c'
   .rw [if_pos ⟨hxi,hyc⟩,if_pos (by omega),show(c'-fst (ct l) i-ct pre i).toNat=0 by omega];simp
   .rw [if_neg (fun z=>hyc z.2),ih,if_pos hxi];by_cases hle:fst (ct l) i+ct pre i<=c'
    .rw [if_pos hle,if_pos (by omega),show(c'-fst (ct l) i-ct pre i).toNat=(c'-fst (ct l) i-(ct pre i+1)).toNat+1 by omega,axX]
    .rw [if_neg hle,if_neg (by omega)]
  .rw [if_neg (fun z=>hxi z.1),ih,if_neg hxi,if_neg hxi];simp
def yg:∀ (l:List Int) (x:Int) (k j:Nat) (z:Int),(dW x l k)[j]?=some z->0<=z
 | [],x,k,j,z,h=>by simp[dW]at h
 | y::r,x,k,j,z,h=>by
  unfold dW at h;split at h
  .cases j with
   | zero=>simp at h;omega
   | succ j=>exact yg r x (k+1) j z (by simpa using h)
  .exact yg r x (k+1) j z h
def LJ(l n f:List Int)(b:List UInt8)(a:Nat)(hl:l.length<=320)(hf:fine l=true)(hn:∀ i:Nat,i<16->n.getD i 0=ct l i)(hfi:∀ i:Nat,i<16->f.getD i 0=fst (ct l) i):∀ (k i:Nat) (code:Int),0<i->i+k<=16 ->
 (qI l n f b a k i code).1=Q8 l (pW l) b a k i code
 | 0,i,code,_,_=>rfl
 | k+1,i,code,hi,hik=>by
  have hfj:=OA l hl hf i hi (2*code+iU b (a+i-1)) l [] (pW l) rfl (zZ l) (fun j hj=>by rw[JF hl hf j hj];simp);simp only[ax3]at hfj;have hc0:ct [] i=0:=rfl;rw[hc0]at hfj;have hps:((dW i l 0).length:Int)=ct l i:=by rw[yc];rfl
  unfold qI Q8;rw[hn i (by omega),hfi i (by omega)];by_cases hs:8*b.length<=a+i-1
  .have hs2:8*(b.length:Int)-(i:Int)<a:=by omega
   rw[if_pos hs,if_pos hs2]
  .have hs2:¬ 8*(b.length:Int)-(i:Int)<a:=by omega
   rw[if_neg hs,if_neg hs2,hfj];generalize 2 * code + iU b (a + i-1)=c' at *;by_cases h0:fst (ct l) i+0<=c'
   .rw [if_pos h0,show(c'-fst (ct l) i-0).toNat=(c'-fst (ct l) i).toNat by omega];by_cases h1:c'-fst (ct l) i<ct l i
    .rw [if_pos ⟨by omega,h1⟩];obtain⟨z,hz⟩:∃ z,(dW i l 0)[(c'-fst (ct l) i).toNat]?=some z:=⟨_,axI (by omega)⟩;have hz0:=yg _ _ _ _ _ hz;rw[axQ,hz];simp only[axM,ayv];rw[show((z.toNat:Nat):Int)=z by omega]
    .rw [if_neg (fun z=>h1 z.2),ax0 (by omega)];exact LJ l n f b a hl hf hn hfi k (i+1) c' (by omega) (by omega)
   .rw [if_neg h0,if_neg (fun z=>h0 (by omega))];exact LJ l n f b a hl hf hn hfi k (i+1) c' (by omega) (by omega)
end Go.Proofs.Ytbodincpjijdiaa
namespace Go.Proofs.Ytbodincpjijdiaa
open Go.AM
def DR(l:List Int)(b:List UInt8)(a:Int):Int×Int×Int :=
 if(kE l).2=0 then(if a<0 then(0,0,2)else(qI l (bQ l).1 (eY (bQ l).1) b a.toNat (mxL 0 l).toNat 1 0).1)else(0,0,(kE l).2)
def Vw(c c2:Nat)(l:List Int)(b:List UInt8)(a:Int)(h63:l.length<9223372036854775808)(hb:b.length<=100000)(ha:a<9223372036854775808):∃ code,Try.f91.body=some code/\∃ H,
 Run X (evT X) 91 0 code [(0,.ro c (.pi .i64 l) 1),(1,.ro c2 (.pb b) 2),(2,.int .i64 a)] []
  ⟨.ret,[(6,.int .i64 (DR l b a).1),(7,.int .i64 (DR l b a).2.1),(8,.int .i64 (DR l b a).2.2)],H⟩:=by
 refine⟨_,rfl,?_⟩;have hCk:=dI (Ho _ _ _ _ (OB (H:=[]) (a:=.ro c (.pi .i64 l) 1) (l:=l) rfl h63));unfold ckV at hCk;unfold DR;by_cases he:(kE l).2=0
 .rw [if_pos he];by_cases h0:a<0
  .rw [if_pos h0];refine⟨[],0,?_⟩;simp[-getElem?_pos,go_sem,hCk,he,h0]
  .rw [if_neg h0];have hrc:=he;rw[OC]at hrc;obtain⟨hl,hf⟩:=x9 hrc;have hRd:=dI (Vt c c2 l b a hl hf);have hmx:=DT l 0 (by omega) (by omega) hf;have hfl:(eY (bQ l).1).length=17:=by unfold eY;rw[mD];rfl
   have hNx:=dI (abR (c:=c2) (b:=b) (m:=mxL 0 l) (n:=(bQ l).1) (f:=eY (bQ l).1) (l:=l) (t:=0) (tn:=0) (pre:=[]) a.toNat hmx hl (kN l) hfl (fun i hi=>wC hl hf i hi)
    (fun i hi=>by
     rw[Aa hl hf i (by omega)];have hbd:=rQ (ct l) (fun j=>⟨nC l j,by have:=Et l j;omega⟩) i;have hp:(2:Int) ^ i<=2 ^ 15:=by
      have:=ayo (n:=2) (by omega) (show i<=15 by omega)
      exact_mod_cast this
     omega) hb (by omega) (.inl rfl) (.inl rfl))
   rw[show((a.toNat:Nat):Int)=a by omega]at hNx;simp only[ax8,ax3,cap6,ayg]at hNx;generalize qI l (bQ l).1 (eY (bQ l).1) b a.toNat (mxL 0 l).toNat 1 0=r at hNx ⊢;unfold t3 at hNx;refine⟨nH c2 b (r.2:Nat) (mxL 0 l) (bQ l).1 (eY (bQ l).1) l 0 2 2 2,0,?_⟩;simp[-getElem?_pos,go_sem,hCk,he,h0,hRd,hNx]
 .rw [if_neg he];have heb:((kE l).2 != 0)=true:=by simpa using he
  refine⟨[],0,?_⟩;simp[-getElem?_pos,go_sem,hCk,he,heb]
def Vx(l:List Int)(b:List UInt8)(a:Int):DR l b a=uO l b a:=by
 unfold DR uO;rw[OC];by_cases he:(iQ l).2=0
 .rw [if_pos he,if_pos he];by_cases h0:a<0
  .rw [if_pos h0,if_pos h0]
  .rw [if_neg h0,if_neg h0];obtain⟨hl,hf⟩:=x9 he;have hmx:=DT l 0 (by omega) (by omega) hf;rw[<- ZE hl hf];exact LJ l _ _ b a.toNat hl hf (fun i hi=>wC hl hf i hi) (fun i hi=>Aa hl hf i (by omega)) _ 1 0 (by omega) (by omega)
 .rw [if_neg he,if_neg he]
def abS(c c2:Nat)(l:List Int)(b:List UInt8)(a:Int)(h63:l.length<9223372036854775808)(hb:b.length<=100000)(ha:a<9223372036854775808) :
 Ev1 X 91 [.ro c (.pi .i64 l) 1,.ro c2 (.pb b) 2,.int .i64 a] [] (t3 (uO l b a),[]):=by
 obtain⟨code,hbo,H,hr⟩:=Vw c c2 l b a h63 hb ha;rw[Vx]at hr;exact Ev1.plain (l:=[.int .i64 (uO l b a).1,.int .i64 (uO l b a).2.1,.int .i64 (uO l b a).2.2]) (bC X) Try.func91 hbo rfl rfl (by simp[dA]) hr (.inr rfl) rfl rfl rfl
section
variable {c:Nat}{b:List UInt8}{mo:Int}{t:Nat}{H:AM.Heap}{o:Nat}{oa:Option Nat}{s:Is}
def DI{α:Type}{f n:Nat}{fn:Func}{code:Code}{xs ys:List AV}{m:PM α}{d:α}{v:α->List AV}(hF:X.P.funcs[f]?=some fn)(hb:fn.body=some code)(hrw:X.rw f 0=false)(h:IrV c b mo t H o oa s)
 (hA:∀ π K,π.map Prod.fst=o::oa.toList->gG X f H π K 1 xs ys)(hi:aC ys=[])(hn:xs.length+2=n)(hng:n<dA)(hv:∀ a,aC (v a)=[]/\aW (v a)=[]/\dB (v a)=true)
 (run:∀ mm E oa1,IrV c b mo n E 0 oa1 s->∃ code,fn.body=some code/\aj (jO fun fr E'=>∃ s' oa' a,aT X fr E' fn.results.toList=some (v a)/\IrV c b mo n E' 0 oa' s'/\(∀ x,oa1=some x->oa'=some x)/\dV b mo m d s s' a)
  X (evT X) f mm code (numbered 0 (coerce X (.ptr 0 0 0 0::ys) (aI X f))) E) :
 ∃ H' oa' s' a,evT X f (.ptr o 0 0 0::xs) H=some (aG (v a),H')/\IrV c b mo t H' o oa' s'/\dV b mo m d s s' a/\Kpt H H' o oa oa':=by
 obtain⟨H',oa',s',l,hE,hV,⟨a,rfl,hQ⟩,h1,h2,h3,h4⟩:=RU (Q:=fun s' l _=>∃ a,l=v a/\dV b mo m d s s' a) hF hb hrw h hA hi hn hng (by
  intro mm E hE;obtain⟨nM,hc2,ht⟩:=run mm E _ hE;rw[hb]at hc2;obtain rfl:=axN hc2;refine ht.mono fun o ho=>⟨ho.1,?_⟩;obtain⟨s',oa',a,q1,q2,q3,q4⟩:=ho.2;obtain⟨v1,v2,v3⟩:=hv a;exact⟨s',oa',v a,q1,v1,v2,v3,q2,fun h=>(by cases oa with
   | none=>exact absurd rfl h
   | some x=>exact q3 1 rfl),a,rfl,q4⟩)
 exact⟨H',oa',s',a,hE,hV,hQ,⟨h1,h2,h3,h4⟩⟩
def LD{y:UInt8}(h:IrV c b mo t H o oa s)(hs:ji b mo s)(hm:mo<=1000000):∃ H' oa' s',evT X 85 [.ptr o 0 0 0,.int .u8 (y.toNat:Nat)] H=some (.tup [],H')/\IrV c b mo t H' o oa' s'/\dV b mo (qZ mo y) () s s' ()/\Kpt H H' o oa oa':=by
 obtain⟨code,hc⟩:∃ code,Try.f85.body=some code:=⟨_,rfl⟩;obtain⟨H',oa',s',a,h1,h2,h3,h4⟩:=DI (f:=85) (n:=3) (xs:=[.int .u8 (y.toNat:Nat)]) (ys:=[.int .u8 (y.toNat:Nat)]) (m:=qZ mo y) (d:=()) (v:=fun _=>[]) Try.func85 hc rfl h (fun π K _=>gG.flat rfl rfl gG.nil) rfl rfl (by simp[dA]) (fun _=>⟨rfl,rfl,rfl⟩) (by
  intro mm E oa1 hE;obtain⟨code,hc,ht⟩:=Uu (m:=mm) (y:=y) hE hs hm;refine⟨code,hc,?_⟩;rw[agC];refine ht.mono fun o ho=>⟨ho.1,?_⟩;obtain⟨s',oa',q1,q2,q3⟩:=ho.2;exact⟨s',oa',(),rfl,q1,q2,q3⟩)
 exact⟨H',oa',s',h1,h2,h3,h4⟩
def sN{n:Nat}{I:Int}(hI:I=(n:Nat))(h:IrV c b mo t H o oa s)(hs:ji b mo s)(hb:b.length<=100000)(hn:n<=16):∃ H' oa' s' a,evT X 80 [.ptr o 0 0 0,.int .i64 I] H=some (.int .i64 a,H')/\IrV c b mo t H' o oa' s'/\dV b mo (iw b n) 0 s s' a/\Kpt H H' o oa oa':=by
 subst hI;obtain⟨code,hc⟩:∃ code,Try.f80.body=some code:=⟨_,rfl⟩;exact DI (f:=80) (n:=3) (xs:=[.int .i64 (n:Nat)]) (ys:=[.int .i64 (n:Nat)]) (m:=iw b n) (d:=0) (v:=fun a=>[.int .i64 a]) Try.func80 hc rfl h (fun π K _=>gG.flat rfl rfl gG.nil) rfl rfl (by simp[dA]) (fun _=>⟨rfl,rfl,rfl⟩) (by
  intro mm E oa1 hE;obtain⟨code,hc,ht⟩:=PO (m:=mm) hE hs hb hn;refine⟨code,hc,?_⟩;rw[agz];exact ht)
def evL{f:Nat}{args ls:List AV}{H:AM.Heap}{v:AV}{N:AM.Heap}(h:Ev1 X f ls [] (v,N))(hl:∃ xs,aH X f H 0 args=some (ls,xs))(hi:aC ls=[])(hcv:xB v=true)(hcN:rZ N=true) :
 evT X f args H=some (dL H.length v,H++lI H.length N):=by
 obtain⟨xs,hl⟩:=hl;exact dI (Ev1.adF h hl hi hcv hcN)
def aeR{a a2:AV}{l:List Int}(h:fJ H a=some (.pi .i64 l))(h2:fJ H a2=some (.pb b)){x:Int}(h63:l.length<9223372036854775808)(hb:b.length<=100000)(hx:x<9223372036854775808):evT X 91 [a,a2,.int .i64 x] H=some (t3 (uO l b x),H):=by
 have hx3:=dX (C:=X) (f:=91) (i:=2) (a:=.int .i64 x) (H:=H) rfl rfl (dR 3);obtain⟨c2,x2,hx2⟩:=iy (C:=X) (f:=91) (i:=1) rfl h2 hx3;obtain⟨c,x1,hx1⟩:=iy (C:=X) (f:=91) (i:=0) rfl h hx2;have:=evL (abS c c2 l b x h63 hb hx) ⟨_,hx1⟩ rfl rfl rfl;simpa[t3,dL,ren,bU,lI]using this
def TV(l codes:List Int)(b:List UInt8)(a:Nat)(o:List UInt8):∀ (f i:Nat) (x:Int),1<=i ->
 (∃ j n:Nat,Q8 l codes b a f i x=((j:Int),(n:Int),0)/\decP b l codes f i x (a+i-1) o=.ok j (a+n) o) \/
 (∃ e:Int,e≠0/\Q8 l codes b a f i x=(0,0,e)/\decP b l codes f i x (a+i-1) o=.err e)
 | 0,i,x,_=>.inr ⟨5,by simp,rfl,rfl⟩
 | f+1,i,x,hi=>by
  unfold Q8 decP fC wX;by_cases hs:8*b.length-(i:Int)<a
  .rw [if_pos hs,if_neg (by omega)];exact .inr ⟨4,by simp,rfl,rfl⟩
  .rw [if_neg hs,if_pos (by omega)];simp only;cases hf:jR i (2*x+iU b (a+i-1)) l codes 0 with
   | some j=>exact .inl ⟨j,i,rfl,by simp only[o9];rw[show a+i-1+1=a+i by omega]⟩
   | none=>
    have:=TV l codes b a o f (i+1) (2*x+iU b (a+i-1)) (by omega);rw[show a+(i+1)-1=a+i-1+1 by omega]at this;exact this
def ZF(l:List Int)(b:List UInt8)(k:Nat)(o:List UInt8) :
 (∃ j n:Nat,uO l b (k:Nat)=((j:Int),(n:Int),0)/\wL b l k o=.ok j (k+n) o) \/
 (∃ e:Int,e≠0/\uO l b (k:Nat)=(0,0,e)/\wL b l k o=.err e):=by
 unfold uO wL;by_cases he:(iQ l).2=0
 .rw [if_pos he,if_pos he,if_neg (by omega)];unfold aiS;rw[ayA];exact TV l (iI l) b k o _ 1 0 (axO 1)
 .rw [if_neg he,if_neg he];exact .inr ⟨_,he,rfl,rfl⟩
def OD{m cl:Nat}{l:List Int}{E:AM.Heap}(h:IrV c b mo t E 0 oa s)(hs:ji b mo s)(hb:b.length<=100000)(hl:l.length<9223372036854775808):∃ code,Try.f86.body=some code /\
 aj (jO fun fr E'=>∃ s' oa',∃ a:Nat,aT X fr E' Try.f86.results.toList=some [.int .i64 (a:Nat)]/\IrV c b mo t E' 0 oa' s'/\(∀ x,oa=some x->oa'=some x)/\dV b mo (wL b l) 0 s s' a) X (evT X) 86 m code [(0,.ptr 0 0 0 0),(1,.ro cl (.pi .i64 l) 2)] E:=by
 refine⟨_,rfl,?_⟩;obtain⟨⟨vo,τ1,τ,a1,a2,h0,ho⟩,hne⟩:=id h;apply aj.seq
 ·(refine⟨0,?_⟩;conv=>lhs;simp[-getElem?_pos,go_sem,ak])
 by_cases he:s.e=0
 .apply aj.seq
  .simp only[fU,he]at h0
   (refine⟨0,?_⟩;conv=>lhs;simp[-getElem?_pos,go_sem,h0])
  have hR:=aeR (H:=E) (a:=.ro cl (.pi .i64 l) 2) (a2:=.ro c (.pb b) τ1) (l:=l) (b:=b) (x:=(s.k:Nat)) rfl rfl hl hb (by have:=hs.1;omega);have hup:=(EW l).up b mo s.k s.o;rcases ZF l b s.k s.o with⟨j,n,hr,hm⟩|⟨e,hne0,hr,hm⟩
  .obtain ⟨u1,u2,_,_⟩:=hup _ _ _ hm hs.1;rw[hr]at hR;refine aj.of (o:=⟨.ret,[(4,.int .i64 (j:Nat))],AM.upd E 0 (some (fU c b mo ⟨s.k+n,s.o,0⟩ vo τ1 τ))⟩) ?_ ⟨.inr rfl,⟨s.k+n,s.o,0⟩,oa,j,rfl,IrV.set hne a1 a2 h.lt.1 ho,fun a ha=>ha,dV.Sm ⟨u2,hs.2⟩ he hm⟩;have w:IntKind.i64.wrap ((s.k:Int)+(n:Int))=((s.k+n:Nat):Int):=by rw[wrap_i64 (by omega) (by omega)];omega
   refine⟨0,?_⟩;simp only[fU,he,t3]at h0 hR ⊢;generalize s.k + n=k1 at *;simp[-getElem?_pos,go_sem,h0,hR,w,ak]
  .rw [hr]at hR;have hV0:IrV c b mo t E 0 oa s:=h;obtain⟨E2,oa2,hE2,hV2,hk2⟩:=rX (e:=e) h;have hfs:lD s e={ s with e:=e }:=by unfold lD;rw[if_pos he]
   rw[hfs]at hV2;obtain⟨⟨vo2,τ3,τ4,b1,b2,h02,ho2⟩,hne2⟩:=id hV2;refine aj.of (o:=⟨.ret,[(4,.int .i64 (0:Nat))],AM.upd E2 0 (some (fU c b mo { s with e:=e } vo2 τ3 τ4))⟩) ?_ ⟨.inr rfl,{ s with e:=e },oa2,0,rfl,IrV.set hne2 b1 b2 hV2.lt.1 ho2,hk2.same,dV.FM (e:=e) ⟨hs.1,hs.2⟩ he hm rfl hne0⟩;have w:IntKind.i64.wrap ((s.k:Int)+0)=((s.k:Nat):Int):=by rw[wrap_i64 (by have:=hs.1;omega) (by have:=hs.1;omega)];omega
   have w2:IntKind.i64.wrap ((s.k:Nat):Int)=((s.k:Nat):Int):=by rw[wrap_i64 (by have:=hs.1;omega) (by have:=hs.1;omega)]
   have heb:(e != 0)=true:=by simpa using hne0
   refine⟨0,?_⟩;simp only[fU,he,t3]at h0 h02 hR ⊢;simp[-getElem?_pos,go_sem,h0,h02,hR,hE2,heb,hne0,w,w2,ak]
 .refine aj.of (o:=⟨.ret,[(4,.int .i64 (0:Nat))],E⟩) ?_ ⟨.inr rfl,s,oa,0,rfl,h,fun a ha=>ha,dV.stop hs he⟩;have heb:(s.e != 0)=true:=by simpa using he
  refine⟨0,?_⟩;simp only[fU]at h0;simp[-getElem?_pos,go_sem,h0,he,heb,ak]
def JB{l:List Int}{a:AV}(h:IrV c b mo t H o oa s)(hs:ji b mo s)(hb:b.length<=100000)(ha:fJ H a=some (.pi .i64 l))(hd:∀ x∈slO a,x≠o/\∀ y,oa=some y->x≠y)(hl:l.length<9223372036854775808):∃ H' oa' s',∃ j:Nat,evT X 86 [.ptr o 0 0 0,a] H=some (.int .i64 (j:Nat),H')/\IrV c b mo t H' o oa' s'/\dV b mo (wL b l) 0 s s' j/\Kpt H H' o oa oa':=by
 obtain⟨code,hc⟩:∃ code,Try.f86.body=some code:=⟨_,rfl⟩;refine DI (f:=86) (n:=3) (xs:=[a]) (ys:=[.ro (qK H a) (.pi .i64 l) 2]) (m:=wL b l) (d:=0) (v:=fun j:Nat=>[.int .i64 (j:Nat)]) Try.func86 hc rfl h (fun π K hπ=>gG.Wn rfl ha rfl ?_ gG.nil) rfl rfl (by simp[dA]) (fun _=>⟨rfl,rfl,rfl⟩) ?_
 .rw [hπ];refine iT.2 ?_;intro x hx hx2;obtain⟨h1,h2⟩:=hd x hx;rcases ax2.1 hx2 with h3|h3
  .exact h1 h3
  .exact h2 x (by simpa using h3) rfl
 .intro mm E oa1 hE;obtain⟨code,hc,ht⟩:=OD (m:=mm) (cl:=qK H a) hE hs hb hl;refine⟨code,hc,?_⟩;rw[agD];exact ht
end
end Go.Proofs.Ytbodincpjijdiaa
