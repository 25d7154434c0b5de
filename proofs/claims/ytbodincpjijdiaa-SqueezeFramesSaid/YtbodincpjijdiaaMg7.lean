/- DQ to IM: texts of this claim, one behind the other; what each shows stands at its head. -/
import Derived.Test.YtbodincpjijdiaaAm4
import Derived.Test.YtbodincpjijdiaaMg6
set_option linter.defProp false
set_option linter.unusedSimpArgs false
set_option linter.unusedVariables false
set_option maxRecDepth 100000
set_option maxHeartbeats 8000000
namespace Go.Proofs.Ytbodincpjijdiaa
open Go.AM
def ahI{y u k j:Nat}(hu:u<2)(hy:y/2 ^ k%2=0):(y||| u*2 ^ k)/2 ^ j%2=if j=k then u else y/2 ^ j%2:=by
 have e:∀ x i:Nat,x/2 ^ i%2=if x.testBit i then 1 else 0:=by
  intro x i;rw[Nat.testBit_eq_decide_div_mod_eq];by_cases h:x/2 ^ i%2=1
  .simp [h]
  .rw [if_neg (by simpa using h)];omega
 have hyk:y.testBit k=false:=by rw[Nat.testBit_eq_decide_div_mod_eq,hy];rfl
 rw[e,e,Nat.testBit_or];have hu2:u=0\/u=1:=by omega
 rcases hu2 with rfl|rfl
 .rw [Nat.zero_mul,Nat.zero_testBit,Bool.or_false];by_cases hj:j=k
  .subst hj;simp[hyk]
  .simp [hj]
 .rw [Nat.one_mul,Nat.testBit_two_pow];by_cases hj:j=k
  .subst hj;simp
  .have:¬ k=j:=fun h=>hj h.symm;simp[hj,this]
def Cln(s:Ws):Prop:=∀ i,s.k<=i->iU s.o i=0
structure Gd (s:Ws):Prop where
 ok:jK s
 cl:Cln s
structure Ext (s s':Ws):Prop where
 le:s.k<=s'.k
 at':∀ i,i<s.k->iU s'.o i=iU s.o i
def Ext.refl(s:Ws):Ext s s:=⟨axO _,fun _ _=>rfl⟩
def Ext.trans{s s1 s2:Ws}(h:Ext s s1)(h2:Ext s1 s2):Ext s s2:=⟨ayO h.le h2.le,fun i hi=>by rw[h2.at' i (ayw hi h.le),h.at' i hi]⟩
def E8{s:Ws}{x:Int}(h:Gd s)(i:Nat):iU (qM s x).o i=if i=s.k then x%2 else iU s.o i:=by
 have hok:=h.ok;unfold jK at hok;have h0:∀ i,iU (if s.k%8=0 then s.o++[0]else s.o) i=iU s.o i:=by
  intro i;split
  .unfold iU;by_cases h1:i/8<s.o.length
   .rw [axQ,axQ,axL h1]
   .have h3:s.o.getD (i/8) 0=0:=by rw[axQ,ax0 (by omega)];rfl
    have h2:(s.o++[0]).getD (i/8) 0=0:=by
     rw[axQ,axS (by omega)];cases i/8-s.o.length with
     | zero=>rfl
     | succ n=>rfl
    rw[h2,h3]
  .rfl
 have hlen:s.k/8<(if s.k%8=0 then s.o++[0]else s.o).length:=by
  split
  .simp;omega
  .omega
 have hcl:iU (if s.k%8=0 then s.o++[0]else s.o) s.k=0:=by rw[h0];exact h.cl _ (axO _)
 rw[<- h0 i];unfold qM;simp only;generalize (if s.k % 8=0 then s.o++[0]else s.o)=b at *;unfold iU at *;by_cases h8:i/8=s.k/8
 .rw [h8];have e1:(b.set (s.k/8) (orB (b.getD (s.k/8) 0) x (s.k%8))).getD (s.k/8) 0=orB (b.getD (s.k/8) 0) x (s.k%8):=by rw[axQ,ayx hlen];rfl
  rw[e1];generalize b.getD (s.k/8) 0=y at *;have hx2:(x%2).toNat<2:=by omega
  have hkr:s.k%8<8:=azS _ (by omega);have hor:y.toNat||| (x % 2).toNat * 2 ^ (s.k % 8)<256:=aAd (n:=8) y.toNat_lt (afK hx2 hkr);have e2:(orB y x (s.k % 8)).toNat=y.toNat||| (x % 2).toNat * 2 ^ (s.k % 8):=by unfold orB;rw[ayU];exact ayN hor
  rw[e2,ahI hx2 (by omega)];by_cases hi:i=s.k
  .rw [if_pos (by rw[hi]),if_pos hi];omega
  .rw [if_neg (by omega),if_neg hi]
 .have e1:(b.set (s.k/8) (orB (b.getD (s.k/8) 0) x (s.k%8))).getD (i/8) 0=b.getD (i/8) 0:=by rw[axQ,axU (ax6 h8),<- axQ]
  rw[e1,if_neg (fun h=>h8 (by rw[h]))]
def Sz{s:Ws}{x:Int}(h:Gd s):Gd (qM s x)/\Ext s (qM s x):=by
 refine⟨⟨ET h.ok,fun i hi=>?_⟩,Nat.le_succ _,fun i hi=>?_⟩
 .have hi':s.k+1<=i:=hi;rw[E8 h,if_neg (by omega)];exact h.cl i (by omega)
 .rw [E8 h,if_neg (by omega)]
def fQ{s:Ws}{x:Int}(h:Gd s):∀ n,Gd (dG s x n)/\Ext s (dG s x n)/\∀ i,i<n->iU (dG s x n).o (s.k+i)=x/2 ^ i%2
 | 0=>⟨h,Ext.refl s,fun i hi=>absurd hi (by omega)⟩
 | n+1=>by
  obtain⟨h1,h2,h3⟩:=fQ (x:=x) h n;obtain⟨h4,h5⟩:=Sz (x:=x/2 ^ n) h1;have hk:=(eU (x:=x) h.ok n).2;refine⟨h4,h2.trans h5,fun i hi=>?_⟩;show iU (qM _ _).o _=_;rw[E8 h1];by_cases hin:i=n
  .subst hin;rw[if_pos hk.symm]
  .rw [if_neg (by omega)];exact h3 i (by omega)
def FW{x:Int}:∀ (n:Nat) {s:Ws},Gd s->Gd (tN s x n)/\Ext s (tN s x n)/\∀ i,i<n->iU (tN s x n).o (s.k+i)=x/2 ^ (n-1-i)%2
 | 0,s,h=>⟨h,Ext.refl s,fun i hi=>absurd hi (by omega)⟩
 | n+1,s,h=>by
  obtain⟨h4,h5⟩:=Sz (x:=x/2 ^ n) h;obtain⟨h1,h2,h3⟩:=FW (x:=x) n h4;have hk:(qM s (x/2 ^ n)).k=s.k+1:=rfl;refine⟨h1,h5.trans h2,fun i hi=>?_⟩;show iU (tN (qM s (x/2 ^ n)) x n).o _=_;cases i with
  | zero=>
   rw[h2.at' _ (by rw[hk];omega),ay0,E8 h,if_pos rfl];rfl
  | succ i=>
   have:=h3 i (by omega);rw[hk]at this;rw[show s.k+(i+1)=s.k+1+i by omega,this,show n+1-1-(i+1)=n-1-i by omega]
structure Agr (b:List UInt8) (s:Ws):Prop where
 le:s.k<=8*b.length
 at':∀ i,i<s.k->iU b i=iU s.o i
def Agr.ext{b:List UInt8}{s s':Ws}(h:Ext s s')(h2:Agr b s'):Agr b s:=⟨ayO h.le h2.le,fun i hi=>by rw[h2.at' i (ayw hi h.le),h.at' i hi]⟩
def aaC(x:Int)(n:Nat):x%2 ^ (n+1)=x%2 ^ n+2 ^ n*(x/2 ^ n%2):=by
 have hp:(0:Int)<2 ^ n:=azU (by omega);rw[aAg];generalize (2:Int) ^ n=p at *;have h1:=Int.emod_add_mul_ediv x p;have h2:=Int.emod_add_mul_ediv (x/p) 2;have h3:=Int.emod_nonneg x (show p≠0 by omega);have h4:=Int.emod_lt_of_pos x hp;generalize x % p=r at *;generalize hq:x/p=q at *;have h5:q%2=0\/q%2=1:=by omega
 have e:x=(r+p*(q%2))+(p*2)*(q/2):=by
  rw[<- h1]
  conv=>lhs;rw[<- h2]
  rw[Int.mul_add,Int.mul_assoc];omega
 rw[e,Int.add_mul_emod_self_left];rcases h5 with h5|h5<;>rw[h5]
 .exact azj (by omega) (by omega)
 .exact azj (by omega) (by omega)
def zB{b:List UInt8}{k:Nat}{o:List UInt8}{x:Int}:∀ n,k+n<=8*b.length->(∀ i,i<n->iU b (k+i)=x/2 ^ i%2)->iw b n k o=.ok (x%2 ^ n) (k+n) o
 | 0,_,_=>by
  show Res.ok 0 k o=_;rw[Int.pow_zero,Int.emod_one];rfl
 | n+1,hl,h=>by
  have ih:=zB (x:=x) (o:=o) n (by omega) fun i hi=>h i (by omega);unfold iw;rw[eP ih];have hb:wX b (k+n) o=.ok (x/2 ^ n%2) (k+n+1) o:=by unfold wX;rw[if_pos (by omega),h n (by omega)]
  rw[eP hb,aaC];rfl
def qC{b:List UInt8}{s:Ws}{o:List UInt8}{x:Int}{n:Nat}(h:Gd s)(ha:Agr b (dG s x n)):iw b n s.k o=.ok (x%2 ^ n) (dG s x n).k o:=by
 have hk:=(eU (x:=x) h.ok n).2;have hle:=ha.le;rw[hk]at hle ⊢;refine zB n hle fun i hi=>?_;rw[ha.at' _ (by omega)];exact(fQ h n).2.2 i hi
def Yb{b:List UInt8}{l codes:List Int}{c:Int}{L y:Nat}{o:List UInt8}(hc:0<=c)(hno:∀ i,1<=i->i<L->jR (i:Nat) (c/2 ^ (L-i)) l codes 0=none)(hyes:jR (L:Nat) c l codes 0=some y)(k0:Nat)(hle:k0+L<=8*b.length)(hb:∀ i,i<L->iU b (k0+i)=c/2 ^ (L-1-i)%2) :
 ∀ (r i f:Nat),r+i=L+1->1<=i->1<=r->r<=f->decP b l codes f i (c/2 ^ r) (k0+i-1) o=.ok y (k0+L) o
 | 0,i,f,_,_,h,_=>absurd h (by omega)
 | r+1,i,f,hi,h1,_,hf=>by
  obtain⟨f,rfl⟩:∃ g,f=g+1:=⟨f-1,by omega⟩;have hbit:wX b (k0+i-1) o=.ok (c/2 ^ r%2) (k0+i) o:=by unfold wX;have:=hb (i-1) (by omega);rw[show k0+(i-1)=k0+i-1 by omega,show L-1-(i-1)=r by omega]at this;rw[if_pos (by omega),this,show k0+i-1+1=k0+i by omega]
  have hx:2*(c/2 ^ (r+1))+c/2 ^ r%2=c/2 ^ r:=by rw[aAg,<- Int.ediv_ediv_of_nonneg (Int.le_of_lt (azU (by omega)))];omega
  unfold decP;rw[eP hbit,hx];by_cases hr:r=0
  .subst hr;have:i=L:=by omega
   subst this;rw[Int.pow_zero,Int.ediv_one,hyes];rfl
  .have:=hno i h1 (by omega);rw[show L-i=r by omega]at this;rw[this];have ih:=Yb hc hno hyes k0 hle hb (o:=o) r (i+1) f (by omega) (by omega) (by omega) (by omega);rw[show k0+(i+1)-1=k0+i by omega]at ih;exact ih
def FX(l codes:List Int)(y:Nat):Prop:=1<=(l.getD y 0).toNat/\(l.getD y 0).toNat<=(mxL 0 l).toNat/\0<=codes.getD y 0/\codes.getD y 0<2 ^ (l.getD y 0).toNat /\
 (∀ i,1<=i->i<(l.getD y 0).toNat->jR (i:Nat) (codes.getD y 0/2 ^ ((l.getD y 0).toNat-i)) l codes 0=none)/\jR ((l.getD y 0).toNat:Nat) (codes.getD y 0) l codes 0=some y
def Yc{b:List UInt8}{l:List Int}{s:Ws}{y:Nat}{o:List UInt8}(h:Gd s)(hl:(iQ l).2=0)(hc:FX l (iI l) y)(ha:Agr b (jZ s (iI l) l y)):wL b l s.k o=.ok y (jZ s (iI l) l y).k o:=by
 obtain⟨c1,c2,c3,c3',c4,c5⟩:=hc;unfold jZ at ha ⊢;have hk:=(FI (x:=(iI l).getD y 0) (l.getD y 0).toNat h.ok).2;obtain⟨_,_,hb⟩:=FW (x:=(iI l).getD y 0) (l.getD y 0).toNat h;have hle:=ha.le;rw[hk]at hle ⊢;unfold wL;rw[if_pos hl];have:=Yb (o:=o) c3 c4 c5 s.k hle (fun i hi=>by rw[ha.at' _ (by omega)];exact hb i hi) (l.getD y 0).toNat 1 (mxL 0 l).toNat (by omega) (by omega) c1 c2;rw[show(iI l).getD y 0/2 ^ (l.getD y 0).toNat=0 from Int.ediv_eq_zero_of_lt c3 c3']at this;exact this
def lcX:List Int:=((List.range 144).map fun i=>Int.ofNat (48+i))++((List.range 112).map fun i=>Int.ofNat (400+i))++((List.range 24).map fun i=>Int.ofNat i)++((List.range 8).map fun i=>Int.ofNat (192+i))
def dcX:List Int:=(List.range 32).map fun i=>Int.ofNat i
def ahJ:lcL=lcX:=by decide +kernel
def Yd:iI flL=lcX:=by decide +kernel
def ahK:dcL=dcX:=by decide +kernel
def Ye:iI flD=dcX:=by decide +kernel
def Kt:(iQ flL).2=0/\(iQ flD).2=0/\(mxL 0 flL).toNat=9/\(mxL 0 flD).toNat=5:=by decide +kernel
def zH{i code:Int}:∀ (l cs:List Int) (j:Nat),(∀ p∈l.zip cs,¬ (p.1=i/\p.2=code))->jR i code l cs j=none
 | [],_,_,_=>by unfold jR;rfl
 | x::r,[],_,_=>by unfold jR;rfl
 | x::r,y::cs,j,h=>by
  unfold jR;rw[if_neg (h (x,y) (ays ..))];exact zH r cs _ fun p hp=>h p (aya _ hp)
def MH:∀ p∈flL.zip lcX,(p.1=8/\48<=p.2/\p.2<=199)\/(p.1=9/\400<=p.2/\p.2<=511)\/(p.1=7/\0<=p.2/\p.2<=23):=by decide +kernel
def MI:∀ p∈flD.zip dcX,p.1=5/\0<=p.2/\p.2<=31:=by decide +kernel
def aaD:∀ y,y<288->(flL.getD y 0,lcX.getD y 0)∈flL.zip lcX/\jR (flL.getD y 0).toNat (lcX.getD y 0) flL lcX 0=some y:=by decide +kernel
def aaE:∀ y,y<32->(flD.getD y 0,dcX.getD y 0)∈flD.zip dcX/\jR (flD.getD y 0).toNat (dcX.getD y 0) flD dcX 0=some y:=by decide +kernel
def ahL{y:Nat}(h:y<288):FX flL (iI flL) y:=by
 obtain⟨h1,h2⟩:=aaD y h;have hc:=MH _ h1;unfold FX;rw[Yd,Kt.2.2.1];simp only at hc;generalize flL.getD y 0=L at *;generalize lcX.getD y 0=c at *;have none:∀ i:Nat,i<L.toNat->(i=7->c/2 ^ (L.toNat-i)>=24)->(i=8->c/2 ^ (L.toNat-i)>=200)->L<=9->jR (i:Nat) (c/2 ^ (L.toNat-i)) flL lcX 0=none:=by
  intro i hi h7 h8 h9;refine zH _ _ _ fun p hp ⟨e1,e2⟩=>?_;have:=MH p hp;rw[e1,e2]at this;rcases this with⟨g1,g2,g3⟩|⟨g1,g2,g3⟩|⟨g1,g2,g3⟩
  .have:=h8 (by omega);omega
  .omega
  .have:=h7 (by omega);omega
 rcases hc with⟨rfl,g2,g3⟩|⟨rfl,g2,g3⟩|⟨rfl,g2,g3⟩
 .refine ⟨by decide,by decide,by omega,?_,fun i h1 hi=>none i hi ?_ ?_ (by omega),h2⟩
  .show c<256;omega
  .rintro rfl;show c/2>=24;omega
  .rintro rfl;exact absurd hi (by decide)
 .refine ⟨by decide,by decide,by omega,?_,fun i h1 hi=>none i hi ?_ ?_ (by omega),h2⟩
  .show c<512;omega
  .rintro rfl;show c/4>=24;omega
  .rintro rfl;show c/2>=200;omega
 .refine ⟨by decide,by decide,by omega,?_,fun i h1 hi=>none i hi ?_ ?_ (by omega),h2⟩
  .show c<128;omega
  .rintro rfl;exact absurd hi (by decide)
  .rintro rfl;exact absurd hi (by decide)
def ahM{y:Nat}(h:y<32):FX flD (iI flD) y:=by
 obtain⟨h1,h2⟩:=aaE y h;have hc:=MI _ h1;unfold FX;rw[Ye,Kt.2.2.2];simp only at hc;generalize flD.getD y 0=L at *;generalize dcX.getD y 0=c at *;obtain⟨rfl,g2,g3⟩:=hc;refine⟨by decide,by decide,by omega,?_,fun i h1 hi=>?_,h2⟩
 .show c<32;omega
 .refine zH _ _ _ fun p hp ⟨e1,e2⟩=>?_;have:=(MI p hp).1;have:i<5:=hi;omega
def qY{s:Ws}{cs ls:List Int}{y:Nat}(h:Gd s):Gd (jZ s cs ls y)/\Ext s (jZ s cs ls y):=by
 obtain⟨h1,h2,_⟩:=FW (x:=cs.getD y 0) (ls.getD y 0).toNat h;exact⟨h1,h2⟩
def Ku{b:List UInt8}{s:Ws}{y:Nat}{o:List UInt8}(h:Gd s)(hy:y<288)(ha:Agr b (jZ s lcL flL y)):wL b Au s.k o=.ok y (jZ s lcL flL y).k o:=by
 have e:lcL=iI flL:=by rw[ahJ,Yd]
 rw[e]at ha ⊢;exact Yc h Kt.1 (ahL hy) ha
def aaF{b:List UInt8}{s:Ws}{y:Nat}{o:List UInt8}(h:Gd s)(hy:y<32)(ha:Agr b (jZ s dcL flD y)):wL b zF s.k o=.ok y (jZ s dcL flD y).k o:=by
 have e:dcL=iI flD:=by rw[ahK,Ye]
 rw[e]at ha ⊢;exact Yc h Kt.2.1 (ahM hy) ha
def Yf{s:Ws}{x:Px}(h:Gd s):Gd (pxW s x)/\Ext s (pxW s x):=by
 unfold pxW;split
 .exact qY h
 .obtain ⟨a1,b1⟩:=qY (cs:=lcL) (ls:=flL) (y:=(lenOf x.len.toNat).1) h;obtain⟨a2,b2,_⟩:=fQ (x:=x.len-((lenOf x.len.toNat).2.1:Nat)) a1 (lenOf x.len.toNat).2.2;obtain⟨a3,b3⟩:=qY (cs:=dcL) (ls:=flD) (y:=(fG x.dist.toNat).1) a2;obtain⟨a4,b4,_⟩:=fQ (x:=x.dist-((fG x.dist.toNat).2.1:Nat)) a3 (fG x.dist.toNat).2.2;exact⟨a4,b1.trans (b2.trans (b3.trans b4))⟩
def FB:∀ (l:List Px) {s:Ws},Gd s->Gd (l.foldl pxW s)/\Ext s (l.foldl pxW s)
 | [],s,h=>⟨h,Ext.refl s⟩
 | x::l,s,h=>by
  obtain⟨a1,b1⟩:=Yf (x:=x) h;obtain⟨a2,b2⟩:=FB l a1;exact⟨a2,b1.trans b2⟩
def aaG:∀ n,n<259->3<=n->CQ (lenOf n).1=((lenOf n).2.1:Nat)/\EC (lenOf n).1=(lenOf n).2.2:=by decide +kernel
def Kv{per n:Nat}:∀ (f s base bits j:Nat),bits<=(gF per n f s base bits j).2.2
 | 0,_,_,_,_=>axO _
 | f+1,s,base,bits,j=>by
  unfold gF;split
  .exact ayO (Nat.le_succ _) (Kv f _ _ _ _)
  .split
   .exact axO _
   .exact Kv f _ _ _ _
def aaH{n:Nat}(h1:1<=n)(h:n<=32768):uT (fG n).1=(fG n).2.1/\nG (fG n).1=(fG n).2.2:=by
 unfold fG uT nG;by_cases h4:n<=4
 .rw [if_pos h4];simp only;rw[if_pos (by omega),if_pos (by omega)];omega
 .rw [if_neg h4];have hb:=Kv (per:=2) (n:=n) 40 4 5 1 0;obtain⟨b,j,hj,he⟩:=Aw (n:=n) (f:=40) (bits:=1) (j:=0) (by omega) (Kw h);have he':gF 2 n 40 4 5 1 0=(2*b+2+j,(2+j)*2 ^ b+1,b):=he;rw[he']at hb ⊢;simp only at hb ⊢;rw[if_neg (by omega),if_neg (by omega)];have e1:(2*b+2+j)/2-1=b:=by omega
  have e2:(2*b+2+j)%2=j:=by omega
  rw[e1,e2];omega
def SA{mo:Int}{d:Nat}:∀ (n k:Nat) (o:List UInt8),((lS d n o).length:Int)<=mo->tH (zD mo d) n k o=.ok () k (lS d n o)
 | 0,_,_,_=>rfl
 | n+1,k,o,h=>by
  have hl:=yC d (n+1) o;have h1:zD mo d k o=.ok () k (o++[o.getD (o.length-d) 0]):=by unfold zD qZ;rw[if_pos (by omega)]
  unfold tH;rw[eP h1];exact SA n k _ h
def Az:∀ (l:List Px) (o out:List UInt8),kQ l o=(out,0)->o.length<=out.length
 | [],o,out,h=>by
  unfold kQ at h;simp only[axJ]at h;rw[h.1];exact axO _
 | x::r,o,out,h=>by
  unfold kQ at h;split at h
  .cases h
  .split at h
   .have:=Az r _ _ h;simp at this;omega
   .split at h
    .cases h
    .have:=Az r _ _ h;rw[yC]at this;omega
def Uz{x:Px}(h:oK x=true)(h0:¬ x.len=0):3<=x.len/\x.len<=258/\1<=x.dist/\x.dist<=32768:=by
 unfold oK at h;rw[if_neg h0]at h;simp only[ax4,decide_eq_true_eq]at h;exact⟨h.1,h.2.1,h.2.2.1,h.2.2.2.1⟩
def PS{b:List UInt8}{mo:Int}:∀ (l:List Px) (s:Ws) (o out:List UInt8) (f:Nat),Gd s->kQ l o=(out,0)->Agr b (jZ (l.foldl pxW s) lcL flL 256)->l.length<f->(out.length:Int)<=mo ->
 uz b mo Au zF f s.k o=.ok () (jZ (l.foldl pxW s) lcL flL 256).k out
 | [],s,o,out,f,hs,he,ha,hf,hm=>by
  obtain⟨f,rfl⟩:∃ g,f=g+1:=⟨f-1,by simp at hf;omega⟩;unfold kQ at he;simp only[axJ]at he;obtain⟨rfl,_⟩:=he;have h1:=Ku (o:=o) hs (by omega) ha;unfold uz;rw[eP h1];rfl
 | x::r,s,o,out,f,hs,he,ha,hf,hm=>by
  obtain⟨f,rfl⟩:∃ g,f=g+1:=⟨f-1,by simp at hf;omega⟩;have hf':r.length<f:=by simp at hf;omega
  have hmay:oK x=true:=by
   unfold kQ at he;split at he
   .cases he
   .rename_i h;simpa using h
  unfold kQ at he;rw[if_neg (by simp[hmay])]at he;obtain⟨g1,g2⟩:=Yf (x:=x) hs;obtain⟨g3,g4⟩:=FB r g1;have ha':Agr b (jZ (r.foldl pxW (pxW s x)) lcL flL 256):=ha;have hax:=Agr.ext (g4.trans (qY g3).2) ha';show uz b mo Au zF (f+1) s.k o=.ok () (jZ (r.foldl pxW (pxW s x)) lcL flL 256).k out;unfold uz;by_cases h0:x.len=0
  .rw [if_pos h0]at he;have ih:=PS r (pxW s x) _ _ f g1 he ha' hf' hm;have hlen:=Az _ _ _ he;have hx:pxW s x=jZ s lcL flL x.byte.toNat:=by unfold pxW;rw[if_pos h0]
   rw[hx]at hax ih ⊢;have hb:=x.byte.toNat_lt;have hb2:x.byte.toNat<256:=hb;rw[eP (Ku (o:=o) hs (by omega) hax)];rw[if_neg (by omega),if_pos hb2];have ht:qZ mo (UInt8.ofNat x.byte.toNat) (jZ s lcL flL x.byte.toNat).k o=.ok () (jZ s lcL flL x.byte.toNat).k (o++[x.byte]):=by unfold qZ;simp at hlen;rw[if_pos (by omega)];simp
   rw[eP ht];exact ih
  .rw [if_neg h0]at he;obtain⟨m1,m2,m3,m4⟩:=Uz hmay h0;have hd:¬ (o.length:Int)<x.dist:=by intro h;rw[if_pos h]at he;cases he
   rw[if_neg hd]at he;have ih:=PS r (pxW s x) _ _ f g1 he ha' hf' hm;have hlen:=Az _ _ _ he;have hx:pxW s x=dG (jZ (dG (jZ s lcL flL (lenOf x.len.toNat).1) (x.len-((lenOf x.len.toNat).2.1:Nat)) (lenOf x.len.toNat).2.2) dcL flD (fG x.dist.toNat).1) (x.dist-((fG x.dist.toNat).2.1:Nat)) (fG x.dist.toNat).2.2:=by unfold pxW;rw[if_neg h0]
   rw[hx]at hax ih ⊢;obtain⟨n1,n2,n3,n4,n5⟩:=wY x.len.toNat (by omega) (by omega);obtain⟨t1,t2⟩:=aaG x.len.toNat (by omega) (by omega);obtain⟨d1,d2,d3,d4⟩:=wZ (n:=x.dist.toNat) (by omega) (by omega);obtain⟨u1,u2⟩:=aaH (n:=x.dist.toNat) (by omega) (by omega);generalize lenOf x.len.toNat=LO at *;obtain⟨ls,lb,lx⟩:=LO;generalize fG x.dist.toNat=DO at *;obtain⟨ds,db,dx⟩:=DO;simp only at n1 n2 n3 n4 n5 t1 t2 d1 d2 d3 d4 u1 u2 hax ih ⊢;obtain⟨a1,b1⟩:=qY (cs:=lcL) (ls:=flL) (y:=ls) hs;obtain⟨a2,b2,_⟩:=fQ (x:=x.len-(lb:Nat)) a1 lx;obtain⟨a3,b3⟩:=qY (cs:=dcL) (ls:=flD) (y:=ds) a2;obtain⟨a4,b4,_⟩:=fQ (x:=x.dist-(db:Nat)) a3 dx;have x3:=Agr.ext b4 hax;have x2:=Agr.ext b3 x3;have x1:=Agr.ext b2 x2;rw[eP (Ku (o:=o) hs (by omega) x1),if_neg (by omega),if_neg (by omega)];have r1:=qC (o:=o) a1 x2;have r2:=aaF (o:=o) a2 (by omega) x3;have r3:=qC (o:=o) a3 hax;generalize dG (jZ (dG (jZ s lcL flL ls) (x.len-(lb:Nat)) lx) dcL flD ds) (x.dist-(db:Nat)) dx=s4 at *;generalize jZ (dG (jZ s lcL flL ls) (x.len-(lb:Nat)) lx) dcL flD ds=s3 at *;generalize dG (jZ s lcL flL ls) (x.len-(lb:Nat)) lx=s2 at *;generalize jZ s lcL flL ls=s1 at *;have q1:(x.len-(lb:Nat))%2 ^ lx=x.len-(lb:Nat):=by
    have:(((2:Nat) ^ lx:Nat):Int)=2 ^ lx:=by push_cast;rfl
    rw[<- this];exact azj (by omega) (by omega)
   have q2:(x.dist-(db:Nat))%2 ^ dx=x.dist-(db:Nat):=by
    have:(((2:Nat) ^ dx:Nat):Int)=2 ^ dx:=by push_cast;rfl
    rw[<- this];exact azj (by omega) (by omega)
   rw[q1]at r1;rw[q2]at r3;have arp:ED b mo zF ls s1.k o=.ok () s4.k (lS x.dist.toNat x.len.toNat o):=by unfold ED;rw[if_neg (by omega),t2,eP r1,eP r2,if_neg (by omega),u2,eP r3,t1,u1];rw[show db+(x.dist-(db:Nat)).toNat=x.dist.toNat by omega,show((lb:Nat)+(x.len-(lb:Nat)):Int).toNat=x.len.toNat by omega];unfold PN;rw[if_neg (by omega)];exact SA _ _ _ (by omega)
   rw[eP arp];exact ih
def Gd.nil:Gd ⟨0,[]⟩:=⟨rfl,fun i _=>by unfold iU;simp⟩
def aaI{F:Nat}{b out:List UInt8}{mo:Int}{l:List Px}(he:kQ l []=(out,0))(ha:Agr b (Ce l))(hm:(out.length:Int)<=mo)(hF:l.length<F):∃ L,ru b mo F F 0 []=.ok L (Ce l).k out:=by
 obtain⟨F,rfl⟩:∃ g,F=g+1:=⟨F-1,by omega⟩;unfold Ce at ha ⊢;obtain⟨a1,b1,_⟩:=fQ (x:=1) Gd.nil 1;obtain⟨a2,b2,_⟩:=fQ (x:=1) a1 2;obtain⟨a3,b3⟩:=FB l a2;have x3:=Agr.ext (qY a3).2 ha;have x2:=Agr.ext b3 x3;have x1:=Agr.ext b2 x2;have r1:=qC (o:=[]) Gd.nil x1;have r2:=qC (o:=[]) a1 x2;have r3:=PS (mo:=mo) l _ [] out (F+1) a2 he ha hF hm;have hbl:CU b mo (F+1) 0 []=.ok ⟨1,true,0,out.length⟩ (jZ (l.foldl pxW (dG (dG ⟨0,[]⟩ 1 1) 1 2)) lcL flL 256).k out:=by
  unfold CU;rw[eP r1,eP r2];have hk:CS b mo (F+1) (1%2 ^ 2)=uz b mo Au zF (F+1):=by unfold CS;rw[if_neg (by decide),if_pos (by decide)]
  rw[hk,eP r3];rfl
 refine⟨[⟨1,true,0,out.length⟩],?_⟩;unfold ru;rw[eP hbl,if_pos rfl];rfl
def aaJ{F:Nat}{b out:List UInt8}{mo:Int}{k:Nat}(h:∃ L,ru b mo F F 0 []=.ok L k out)(hm:(out.length:Int)<=mo):wM F b mo=(out,(((k+7)/8:Nat):Int),0):=by
 obtain⟨L,h⟩:=h;unfold wM;rw[if_neg (by omega),h]
def aaK{s:Ws}{cs ls:List Int}{y:Nat}(h:jK s)(hk:1<=s.k):(jZ s cs ls y).o≠[]:=by
 obtain⟨h1,h2⟩:=lg (cs:=cs) (ls:=ls) (y:=y) h;intro e;unfold jK at h1;rw[e]at h1;simp at h1;omega
def aaL{l:List Px}(hm:∀ x∈l,oK x=true):(Ce l).o≠[]:=by
 unfold Ce;have h0:jK ⟨0,[]⟩:=rfl;obtain⟨h1,h2⟩:=eU (x:=1) h0 1;obtain⟨h3,h4⟩:=eU (x:=1) h1 2;obtain⟨h5,h6⟩:=FY l _ h3 hm;have hmono:∀ (l:List Px) (s:Ws),jK s->(∀ x∈l,oK x=true)->s.k<=(l.foldl pxW s).k:=by
  intro l;induction l with
  | nil=>intro s _ _;exact axO _
  | cons x l ih=>
   intro s hs hm;obtain⟨h1,_⟩:=PU hs (hm x (ays ..));refine ayO ?_ (ih (pxW s x) h1 fun y hy=>hm y (aya _ hy));unfold pxW;split
   .have:=(lg (cs:=lcL) (ls:=flL) (y:=x.byte.toNat) hs).2;omega
   .have a1:=lg (cs:=lcL) (ls:=flL) (y:=(lenOf x.len.toNat).1) hs;have a2:=eU (x:=x.len-((lenOf x.len.toNat).2.1:Nat)) a1.1 (lenOf x.len.toNat).2.2;have a3:=lg (cs:=dcL) (ls:=flD) (y:=(fG x.dist.toNat).1) a2.1;have a4:=eU (x:=x.dist-((fG x.dist.toNat).2.1:Nat)) a3.1 (fG x.dist.toNat).2.2;have b1:=a1.2;have b2:=a2.2;have b3:=a3.2;have b4:=a4.2;omega
 have:=hmono l _ h3 hm;exact aaK h5 (by omega)
def SB{H:AM.Heap}{o:Nat}{l:List Int}(h:H[o]?=some (some (flO l))):fJ H (.sl o 0 l.length 0)=some (.pi .i64 l):=by
 simp[fJ,live,h,flO,gq]
def arq:lH X 88 []=some (.agg (.pc [.ro 0 .pn 0,.int .i64 0])):=by kernel_rfl
def fiX(l:List Px)(fr:AM.Frame)(E:AM.Heap):Prop:=∃ a g ob,aB fr 2=.sl a 0 (nN l).1.length g/\aB fr 3=.int .i64 (nN l).2/\E[a]?=some (some ob)/\Rw (.pb (nN l).1) g ob
section
variable {c:Nat}{l:List Px}
def PV{m:Nat}(hl:l.length<=2000):∃ code,Try.f42.body=some code/\aj (lG (fiX l)) X (evT X) 42 m code [(0,.ro c (.pr 3 (l.map pxR)) 1)] []:=by
 refine⟨_,rfl,?_⟩;obtain⟨obE,hwE,hEx⟩:=UA (H:=[some (⟨.pb [],0,none,0,true,false,0⟩:AM.Obj)]) (a:=.ro c (.pr 3 (l.map pxR)) 1) (l:=l) rfl hl;have hmay:=Ky (l:=l) (o:=[]);unfold fiX nN;generalize hex:kQ l []=r at *;obtain⟨o,e⟩:=r;simp only at hEx hmay ⊢;apply aj.seq (fr':=[(0,.ro c (.pr 3 (l.map pxR)) 1)]) (H':=[some (⟨.pb [],0,none,0,true,false,0⟩:AM.Obj)])
 .generalize l.map pxR=R at *;apply Pe;simp[-getElem?_pos,go_sem,ak,rowOf,FZ]
 apply aj.assoc;apply aj.seq (fr':=[(0,.ro c (.pr 3 (l.map pxR)) 1),(5,.int .i64 e)]) (H':=[some (⟨.pb [],0,none,0,true,false,0⟩:AM.Obj),some obE])
 .simp only[azp,List.singleton_append]at hEx;generalize l.map pxR=R at *;generalize o.length=K at *;apply Pe;simp[-getElem?_pos,go_sem,hEx,ak]
 apply aj.assoc;by_cases he:¬ e=0
 .have heb:(e != 0)=true:=by simpa using he
  rw[if_pos he];refine aj.of (o:=⟨.ret,[(2,.sl 2 0 0 0),(3,.int .i64 e)],[some (⟨.pb [],0,none,0,true,false,0⟩:AM.Obj),some obE,some (⟨.pb [],0,none,0,true,false,0⟩:AM.Obj)]⟩) ?_ ⟨rfl,2,0,_,rfl,rfl,rfl,⟨rfl,rfl,rfl,rfl,rfl⟩⟩;apply Run.seq (fr':=[(0,.ro c (.pr 3 (l.map pxR)) 1),(5,.int .i64 e),(24,.bool true)]) (H':=[some (⟨.pb [],0,none,0,true,false,0⟩:AM.Obj),some obE])
  .generalize l.map pxR=R at *;apply Pe;simp[-getElem?_pos,go_sem,he,heb]
  refine Run.bK ?_ (by simp);refine Run.cond (d:=true) (by simp[aJ,aB]) ?_;apply Run.seq (fr':=[(2,.sl 2 0 0 0),(3,.int .i64 e)]) (H':=[some (⟨.pb [],0,none,0,true,false,0⟩:AM.Obj),some obE,some (⟨.pb [],0,none,0,true,false,0⟩:AM.Obj)])
  .generalize l.map pxR=R at *;apply Pe;simp[-getElem?_pos,go_sem,ak,rowOf,FZ]
  .exact ⟨0,rfl⟩
 have he:e=0:=Classical.not_not.1 he;subst he;rw[if_neg (by simp)];simp only;have hm:=hmay rfl;apply aj.seq (fr':=[(0,.ro c (.pr 3 (l.map pxR)) 1),(5,.int .i64 0),(24,.bool false)]) (H':=[some (⟨.pb [],0,none,0,true,false,0⟩:AM.Obj),some obE])
 .generalize l.map pxR=R at *;apply Pe;simp[-getElem?_pos,go_sem]
 apply aj.seq (fr':=[(0,.ro c (.pr 3 (l.map pxR)) 1),(5,.int .i64 0),(24,.bool false)]) (H':=[some (⟨.pb [],0,none,0,true,false,0⟩:AM.Obj),some obE])
 .exact Run.cond (d:=false) (by simp[aJ,aB]) ⟨0,rfl⟩
 have hF:=ars [some (⟨.pb [],0,none,0,true,false,0⟩:AM.Obj),some obE];have hC1:=SE (H:=[some (⟨.pb [],0,none,0,true,false,0⟩:AM.Obj),some obE,some (flO flL),some (flO flD)]) (a:=.sl 2 0 288 0) (l:=flL) (by have:=SB (H:=[some (⟨.pb [],0,none,0,true,false,0⟩:AM.Obj),some obE,some (flO flL),some (flO flD)]) (o:=2) (l:=flL) rfl;rwa [tX]at this) adx;have hC2:=SE (H:=[some (⟨.pb [],0,none,0,true,false,0⟩:AM.Obj),some obE,some (flO flL),some (flO flD),mF 288 lcL]) (a:=.sl 3 0 32 0) (l:=flD) (by have:=SB (H:=[some (⟨.pb [],0,none,0,true,false,0⟩:AM.Obj),some obE,some (flO flL),some (flO flD),mF 288 lcL]) (o:=3) (l:=flD) rfl;rwa [Fa]at this) ady;rw[tX]at hC1;rw[Fa]at hC2;simp only[axY,ax3,ayj,ax8]at hF hC1 hC2;change evT X _ _ _=some (_,[_,_,_,_,mF 288 lcL])at hC1;change evT X _ _ _=some (_,[_,_,_,_,_,mF 32 dcL])at hC2;have hV:FxV [some (⟨.pb [],0,none,0,true,false,0⟩:AM.Obj),some obE,some (flO flL),some (flO flD),mF 288 lcL,mF 32 dcL,some (jH ⟨0,[]⟩ (.ro 0 .pn 0) 0)] 2 3 4 5 6 none ⟨0,[]⟩:=⟨rfl,rfl,rfl,rfl,⟨⟨_,0,.inl rfl,rfl,rfl,0,.inl rfl,rfl⟩,fun a h=>by cases h⟩,by omega,fun a h=>(by cases h),rfl⟩;generalize mF 288 lcL=r8 at *;generalize mF 32 dcL=r10 at *;generalize some (flO flL)=r6 at *;generalize some (flO flD)=r7 at *;generalize some (⟨.pb [],0,none,0,true,false,0⟩:AM.Obj)=r0 at *;apply aj.seq (fr':=[(0,.ro c (.pr 3 (l.map pxR)) 1),(6,.sl 2 0 288 0),(7,.sl 3 0 32 0)]) (H':=[r0,some obE,r6,r7])
 .generalize l.map pxR=R at *;apply Pe;simp[-getElem?_pos,go_sem,hF,ak]
 apply aj.seq (fr':=[(0,.ro c (.pr 3 (l.map pxR)) 1),(6,.sl 2 0 288 0),(7,.sl 3 0 32 0),(8,.sl 4 0 288 0)]) (H':=[r0,some obE,r6,r7,r8])
 .generalize l.map pxR=R at *;apply Pe;simp[-getElem?_pos,go_sem,hC1,ak]
 apply aj.seq (fr':=[(0,.ro c (.pr 3 (l.map pxR)) 1),(6,.sl 2 0 288 0),(7,.sl 3 0 32 0),(8,.sl 4 0 288 0),(10,.sl 5 0 32 0)]) (H':=[r0,some obE,r6,r7,r8,r10])
 .generalize l.map pxR=R at *;apply Pe;simp[-getElem?_pos,go_sem,hC2,ak]
 apply aj.seq (fr':=[(0,.ro c (.pr 3 (l.map pxR)) 1),(6,.sl 2 0 288 0),(7,.sl 3 0 32 0),(8,.sl 4 0 288 0),(10,.sl 5 0 32 0),(12,.ptr 6 0 0 0)]) (H':=[r0,some obE,r6,r7,r8,r10,some (jH ⟨0,[]⟩ (.ro 0 .pn 0) 0)])
 .simp only[jH];generalize l.map pxR=R at *;apply Pe;simp[-getElem?_pos,go_sem,arq,ak]
 clear hC1 hC2 hF hEx;generalize [r0,some obE,r6,r7,r8,r10,some (jH ⟨0,[]⟩ (.ro 0 .pn 0) 0)]=E0 at *;obtain⟨E1,oa1,g1,g2,g3⟩:=oV (x:=1) (I:=1) (n:=1) rfl hV.wr hV.ok (by simp) (by omega);have hV1:=hV.step g2 g3 (eU hV.ok 1).1;apply aj.seq (fr':=[(0,.ro c (.pr 3 (l.map pxR)) 1),(6,.sl 2 0 288 0),(7,.sl 3 0 32 0),(8,.sl 4 0 288 0),(10,.sl 5 0 32 0),(12,.ptr 6 0 0 0)]) (H':=E1)
 .generalize l.map pxR=R at *;apply Pe;simp[-getElem?_pos,go_sem,g1]
 have k1:=(eU (x:=1) hV.ok 1).2;obtain⟨E2,oa2,g4,g5,g6⟩:=oV (x:=1) (I:=2) (n:=2) rfl hV1.wr hV1.ok (by rw[k1];simp) (by omega);have hV2:=hV1.step g5 g6 (eU hV1.ok 2).1;have k2:=(eU (x:=1) hV1.ok 2).2;apply aj.seq (fr':=[(0,.ro c (.pr 3 (l.map pxR)) 1),(6,.sl 2 0 288 0),(7,.sl 3 0 32 0),(8,.sl 4 0 288 0),(10,.sl 5 0 32 0),(12,.ptr 6 0 0 0)]) (H':=E2)
 .generalize l.map pxR=R at *;apply Pe;simp[-getElem?_pos,go_sem,g4]
 apply aj.assoc;apply aj.seq (fr':=pq 2 3 4 5 6 c l 0) (H':=E2)
 .have hll:(l.map pxR).length=l.length:=by simp
  simp only[pq];generalize l.map pxR=R at *;generalize l.length=N at *;apply Pe;simp[-getElem?_pos,go_sem,hll]
 have hk3:(dG (dG ⟨0,[]⟩ 1 1) 1 2).k<=100:=by rw[k2,k1];simp
 apply aj.andThen (piece (aaM (m:=m) (c:=c) hV2 hk3 hl hm) _ rfl);rintro fr E3 ⟨oa3,rfl,hV3⟩;have hk4:=(FY l _ hV2.ok hm).2;obtain⟨E4,oa4,hV4,aru⟩:=adz (m:=m) (c:=c) (i:=l.length) (l:=l) (tl:=[(49,.bool false)]) hV3 (by omega);apply aj.seq (piece aru _ rfl);have hne:=aaL hm;unfold Ce at hne ⊢;obtain⟨a,g,ob,q1,q2,arv⟩:=adA (m:=m) hV4 hne;generalize (jZ (l.foldl pxW (dG (dG ⟨0,[]⟩ 1 1) 1 2)) lcL flL 256).o=B at *;apply aj.seq (piece arv _ rfl);exact aj.of (o:=⟨.ret,[(2,.sl a 0 B.length g),(3,.int .i64 0)],E4⟩) ⟨0,rfl⟩ ⟨rfl,a,g,ob,rfl,rfl,q1,q2⟩
def UC{H:AM.Heap}{a:AV}(ha:fJ H a=some (.pr 3 (l.map pxR)))(hl:l.length<=2000):∃ ob,Rw (.pb (nN l).1) 0 ob/\evT X 42 [a] H=some (.tup [.sl H.length 0 (nN l).1.length 0,.int .i64 (nN l).2],H++[some ob]):=by
 obtain⟨c,x,hx⟩:=iy (C:=X) (f:=42) (i:=0) rfl ha (dR 1);obtain⟨code,hc,⟨out,⟨ho,a2,g,ob,h2,h3,h4,hw⟩,hrun⟩⟩:=PV (m:=0) (c:=c) (l:=l) hl;obtain⟨ob',q1,q2⟩:=Ev1.Kz (C:=X) (H:=H) (bC X) (n:=(nN l).1.length) (l:=(nN l).1) (rest:=[.int .i64 (nN l).2]) Try.func42 hc hx rfl (by simp[dA]) rfl rfl rfl (by
  rw[agn];refine⟨out,⟨ho,a2,g,ob,?_,h4,hw⟩,hrun⟩;show aT X out.fr out.H [.tmp 2,.tmp 3]=_;simp[aT,h2,h3])
 exact⟨ob',q1,dI (by simpa[aG,dB]using q2)⟩
end
def wK(b:List UInt8):Ws:=dG (dG ⟨8,(dG ⟨0,[]⟩ 1 3).o⟩ (b.length:Nat) 16) (-(b.length:Int)-1) 16
def kG(b:List UInt8):List UInt8:=(wK b).o++b
def f13:(dG ⟨0,[]⟩ 1 3)=⟨3,[1]⟩:=by kernel_rfl
def arw:lH X 88 []=some (.agg (.pc [.ro 0 .pn 0,.int .i64 0])):=by kernel_rfl
def ahN:dh X 5=.pb []:=by kernel_rfl
def arx{L:Nat}(h:L<=65535):IntKind.i64.wrap ((AM.bits .i64 (if IntKind.i64.signed=true then -1 else 9223372036854775807) ^^^ AM.bits .i64 (L:Int)).toNat:Nat)=-(L:Int)-1:=by
 have e1:AM.bits .i64 (if IntKind.i64.signed=true then -1 else 9223372036854775807)=BitVec.allOnes 64:=by kernel_rfl
 have e2:(BitVec.ofInt 64 (L:Int)).toNat=L:=by rw[az8];show((L:Int)%18446744073709551616).toNat=L;omega
 have e3:(AM.bits .i64 (if IntKind.i64.signed=true then -1 else 9223372036854775807) ^^^ AM.bits .i64 (L:Int)).toNat=18446744073709551615-L:=by rw[e1];show(BitVec.allOnes 64 ^^^ BitVec.ofInt 64 (L:Int)).toNat=_;rw[BitVec.allOnes_xor,BitVec.toNat_not,e2]
 rw[e3];have e4:((18446744073709551615-L:Nat):Int)=18446744073709551615-(L:Int):=by omega
 rw[e4];unfold IntKind.wrap;simp[IntKind.bits,IntKind.signed];omega
section
variable {c:Nat}{b:List UInt8}{E:AM.Heap}{oa:Option Nat}{s:Ws}
def vO(c:Nat)(b:List UInt8):AM.Frame:=[(0,.ro c (.pb b) 1),(3,.ptr 1 0 0 0),(4,.int .i64 (b.length:Nat)),(5,.int .i64 1)]
def ahO{m:Nat}(h:WrV 0 E 1 oa s)(hne:s.o≠[])(hl:s.o.length<=1000000):∃ E',WrV 0 E' 1 oa ⟨s.o.length*8,s.o⟩/\∃ code,Try.f44.body.bind (ay [1,1,0,0,0,1,1,1,1,0])=some code/\Run X (evT X) 44 m code (vO c b) E ⟨.normal,vO c b,E'⟩:=by
 obtain⟨⟨vo,τ,a1,h0,ho⟩,hn⟩:=id h;cases oa with
 | none=>exact absurd ho.1 hne
 | some a=>
  refine⟨AM.upd E 1 (some (jH ⟨s.o.length*8,s.o⟩ vo τ)),WrV.set hn a1 (eX h0) ho,_,rfl,?_⟩;obtain⟨g,τ2,ob,hτ2,rfl,h3,h4⟩:=ho;have hg:=h4.g;have w1:IntKind.i64.wrap ((s.o.length:Int)*8)=((s.o.length*8:Nat):Int):=by rw[wrap_i64 (by omega) (by omega)];omega
  simp only[jH,vO]at h0 ⊢;generalize s.o.length * 8=k8 at *;generalize s.o.length=N at *;generalize b.length=L at *;apply Pe;simp[-getElem?_pos,go_sem,h0,h3,hg,w1]
def adB{m:Nat}(h:WrV 0 E 1 oa s)(hne:s.o≠[])(hl:s.o.length<=1000000):∃ E',WrV 0 E' 1 oa ⟨s.o.length*8,s.o⟩/\∃ code,Try.f44.body.bind (ay [1,1,0,0,0,1,1,1,1,1,1,1,1,0])=some code/\Run X (evT X) 44 m code (vO c b) E ⟨.normal,vO c b,E'⟩:=by
 obtain⟨⟨vo,τ,a1,h0,ho⟩,hn⟩:=id h;cases oa with
 | none=>exact absurd ho.1 hne
 | some a=>
  refine⟨AM.upd E 1 (some (jH ⟨s.o.length*8,s.o⟩ vo τ)),WrV.set hn a1 (eX h0) ho,_,rfl,?_⟩;obtain⟨g,τ2,ob,hτ2,rfl,h3,h4⟩:=ho;have hg:=h4.g;have w1:IntKind.i64.wrap ((s.o.length:Int)*8)=((s.o.length*8:Nat):Int):=by rw[wrap_i64 (by omega) (by omega)];omega
  simp only[jH,vO]at h0 ⊢;generalize s.o.length * 8=k8 at *;generalize s.o.length=N at *;generalize b.length=L at *;apply Pe;simp[-getElem?_pos,go_sem,h0,h3,hg,w1]
def adC{m:Nat}(h:WrV 0 E 1 oa s)(hne:s.o≠[])(hl:s.o.length<=1000000)(hb:b.length<=65535):∃ E',WrV 0 E' 1 oa ⟨s.k,s.o++b⟩/\∃ code,Try.f44.body.bind (ay [1,1,0,0,0,1,1,1,1,1,1,1,0])=some code/\Run X (evT X) 44 m code (vO c b) E ⟨.normal,vO c b,E'⟩:=by
 obtain⟨⟨vo,τ,a1,h0,ho⟩,hn⟩:=id h;cases oa with
 | none=>exact absurd ho.1 hne
 | some a=>
  obtain⟨g,τ2,ob,hτ2,rfl,h3,h4⟩:=ho;obtain⟨ob',w1,w2⟩:=Aj (C:=X) (T:=22) (e:=5) (src:=.ro (if c=0 then 0 else 2) (.pb b) 1) (m:=b) lM Ai nO bytes5 vN h3 h4 (.inl (by simp[gJ,jq,kH])) (by omega);have h0':(upd E a (some ob'))[1]?=some (some (jH s (.sl a 0 s.o.length g) τ)):=rV h0 (hn a rfl);refine⟨AM.upd (upd E a (some ob')) 1 (some (jH ⟨s.k,s.o++b⟩ (.sl a 0 (s.o.length+b.length) (g+1)) τ)),WrV.set hn a1 (eX h0') ⟨g+1,τ2,ob',hτ2,by simp,setAt h3,w1⟩,_,rfl,?_⟩;have ht:b.take b.length=b:=ayM;have hz:gq (.pb b) 0 b.length=some (.pb b):=by simp[gq]
  simp only[jH,vO]at h0 h0' ⊢;generalize upd E a (some ob')=E1 at *;generalize s.o.length + b.length=N2 at *;generalize s.o.length=N at *;generalize hL:b.length=L at *;apply Pe;simp[-getElem?_pos,go_sem,h0,h0',w2,gY,bound,gq,hL,ht,hz]
def UD(s:Ws)(x:Int):s.o.length<=(qM s x).o.length:=by
 unfold qM;simp only[az6];split<;>simp
def xg(s:Ws)(x:Int):∀ n,s.o.length<=(dG s x n).o.length
 | 0=>axO _
 | n+1=>ayO (xg s x n) (UD _ _)
def KA{m:Nat}(hb:b.length<=65535):∃ code,Try.f44.body=some code/\aj (lG fun fr E=>∃ a g ob,aB fr 2=.sl a 0 (kG b).length g/\E[a]?=some (some ob)/\Rw (.pb (kG b)) g ob) X (evT X) 44 m code [(0,.ro c (.pb b) 1)] []:=by
 refine⟨_,rfl,?_⟩;apply aj.seq (fr':=[(0,.ro c (.pb b) 1)]) (H':=[some (⟨.pb [],0,none,0,true,false,0⟩:AM.Obj)])
 .apply Pe;simp[-getElem?_pos,go_sem,ak,rowOf,ahN]
 apply aj.seq (fr':=[(0,.ro c (.pb b) 1),(3,.ptr 1 0 0 0)]) (H':=[some (⟨.pb [],0,none,0,true,false,0⟩:AM.Obj),some (jH ⟨0,[]⟩ (.ro 0 .pn 0) 0)])
 .simp only[jH];apply Pe;simp[-getElem?_pos,go_sem,arw,ak]
 have hV:WrV 0 [some (⟨.pb [],0,none,0,true,false,0⟩:AM.Obj),some (jH ⟨0,[]⟩ (.ro 0 .pn 0) 0)] 1 none ⟨0,[]⟩:=⟨⟨_,0,.inl rfl,rfl,rfl,0,.inl rfl,rfl⟩,fun a h=>by cases h⟩;generalize [some (⟨.pb [],0,none,0,true,false,0⟩:AM.Obj),some (jH ⟨0,[]⟩ (.ro 0 .pn 0) 0)]=E0 at *;have hI:(b.length:Int)<=65535:=by omega
 refine aj.blk ?_ (fun o ho=>by rw[ho.1];simp);refine aj.jP (I:=fun k fr E=>k=0/\fr=[(0,.ro c (.pb b) 1),(3,.ptr 1 0 0 0)]/\E=E0) ?_ (k:=0) ⟨rfl,rfl,rfl⟩;rintro k fr E ⟨rfl,rfl,rfl⟩
 suffices hT:aj (lG fun fr E=>∃ a g ob,aB fr 2=.sl a 0 (kG b).length g/\E[a]?=some (some ob)/\Rw (.pb (kG b)) g ob) X (evT X) 44 m _ [(0,.ro c (.pb b) 1),(3,.ptr 1 0 0 0)] E from hT.mono fun o ho=>.inr ⟨by rw[ho.1];simp,ho⟩
 refine aj.blk ?_ (fun o ho=>by rw[ho.1];simp);apply aj.seq (fr':=[(0,.ro c (.pb b) 1),(3,.ptr 1 0 0 0),(4,.int .i64 (b.length:Nat))]) (H':=E)
 .have hI2:¬ (65535:Int)<(b.length:Int):=by omega
  have hI3:¬ 65535<b.length:=by omega
  generalize hL:b.length=L at *;apply Pe;simp[-getElem?_pos,go_sem,kP,ak,hI,hI2,hI3,hL]
 apply aj.seq (fr':=[(0,.ro c (.pb b) 1),(3,.ptr 1 0 0 0),(4,.int .i64 (b.length:Nat)),(5,.int .i64 0)]) (H':=E)
 .generalize hL:b.length=L at *;apply Pe;simp[-getElem?_pos,go_sem,ak]
 apply aj.assoc;apply aj.seq (fr':=[(0,.ro c (.pb b) 1),(3,.ptr 1 0 0 0),(4,.int .i64 (b.length:Nat)),(5,.int .i64 0),(14,.bool true)]) (H':=E)
 .generalize hL:b.length=L at *;apply Pe;simp[-getElem?_pos,go_sem,hL]
 apply aj.seq (fr':=vO c b) (H':=E)
 .refine Run.cond (d:=true) (by simp[aJ,aB]) ?_;simp only[vO];generalize hL:b.length=L at *;apply Pe;simp[-getElem?_pos,go_sem,ak]
 obtain⟨E1,oa1,g1,g2,g3⟩:=oV (x:=1) (I:=3) (n:=3) rfl hV rfl (by simp) (by omega);apply aj.seq (fr':=vO c b) (H':=E1)
 .simp only[vO];generalize hL:b.length=L at *;apply Pe;simp[-getElem?_pos,go_sem,g1]
 have ho1:(dG ⟨0,[]⟩ 1 3).o=[1]:=by rw[f13]
 obtain⟨E2,hV2,hr7⟩:=ahO (m:=m) (c:=c) (b:=b) g2 (by rw[ho1];simp) (by rw[ho1];simp);apply aj.seq (piece hr7 _ rfl);have e8:(dG ⟨0,[]⟩ 1 3).o.length*8=8:=by rw[ho1];rfl
 rw[e8]at hV2;have hok2:jK ⟨8,(dG ⟨0,[]⟩ 1 3).o⟩:=by unfold jK;rw[ho1];rfl
 obtain⟨E3,oa3,g4,g5,g6⟩:=oV (x:=(b.length:Nat)) (I:=16) (n:=16) rfl hV2 hok2 (by simp) (by omega);have k3:=eU (x:=(b.length:Nat)) hok2 16;apply aj.seq (fr':=vO c b) (H':=E3)
 .simp only[vO];generalize hL:b.length=L at *;apply Pe;simp[-getElem?_pos,go_sem,g4]
 obtain⟨E4,oa4,g7,g8,g9⟩:=oV (x:=-(b.length:Int)-1) (I:=16) (n:=16) rfl g5 k3.1 (by rw[k3.2];simp) (by omega);have k4:=eU (x:=-(b.length:Int)-1) k3.1 16;apply aj.seq (fr':=vO c b) (H':=E4)
 .simp only[vO];have wx:IntKind.i64.wrap (-(b.length:Int)-1)=-(b.length:Int)-1:=by rw[wrap_i64 (by omega) (by omega)]
  have wx2:IntKind.i64.wrap (-1-(b.length:Int))=-(b.length:Int)-1:=by rw[wrap_i64 (by omega) (by omega)];omega
  have wn:=arx hb;simp only[go_sem]at wn;generalize hL:b.length=L at *;apply Pe;simp[-getElem?_pos,go_sem,g7,wn]
 have ahP:1<=(wK b).o.length:=by
  have m1:=xg ⟨8,(dG ⟨0,[]⟩ 1 3).o⟩ (b.length:Nat) 16;have m2:=xg (dG ⟨8,(dG ⟨0,[]⟩ 1 3).o⟩ (b.length:Nat) 16) (-(b.length:Int)-1) 16;have m0:(dG ⟨0,[]⟩ 1 3).o.length=1:=by rw[ho1];rfl
  unfold wK;simp only at m1 m2;omega
 have hk5:(wK b).o.length=5:=by have:=k4.1;unfold jK at this;unfold wK;rw[this,k4.2,k3.2];rfl
 have hne:(wK b).o≠[]:=fun e=>by rw[e]at ahP;simp at ahP
 have g8':WrV 0 E4 1 oa4 (wK b):=g8;obtain⟨E5,hV5,arz⟩:=adC (m:=m) (c:=c) (b:=b) g8' hne (by omega) hb;apply aj.seq (piece arz _ rfl);obtain⟨E6,hV6,arA⟩:=adB (m:=m) (c:=c) (b:=b) hV5 (by simp[hne]) (by simp;omega);apply aj.seq (piece arA _ rfl);simp only at hV6;have UE:∃ v,∃ code,Try.f44.body.bind (ay [1,1,0,0,0,1,1,1,1,1,1,1,1,1,0])=some code/\Run X (evT X) 44 m code (vO c b) E6 ⟨.normal,[(0,v),(3,.ptr 1 0 0 0),(5,.int .i64 1)],E6⟩:=by refine⟨.ro (if c=0 then 0 else c) (.pb []) 1,_,rfl,?_⟩;have hd:b.drop b.length=[]:=azm (axO _);simp only[vO];generalize hL:b.length=L at *;apply Pe;simp[-getElem?_pos,go_sem,gY,bound,gq,hL,hd,ak]
 obtain⟨v12,UE⟩:=UE;apply aj.seq (piece UE _ rfl);apply aj.seq (fr':=[(0,v12),(3,.ptr 1 0 0 0),(58,.bool true)]) (H':=E6)
 .apply Pe;simp[-getElem?_pos,go_sem]
 refine aj.y5 (by simp[aJ,aB]) ?_;obtain⟨⟨vo,τ,a1,h0,ho⟩,hn⟩:=id hV6;cases oa4 with
 | none=>exact absurd ho.1 (by simp[hne])
 | some a=>
  obtain⟨g,τ2,ob,hτ2,rfl,h3,h4⟩:=ho;have ht:τ2=0:=hτ2.elim id id;have hst:(wK b).o++b=kG b:=rfl;simp only[hst]at h0 h3 h4;refine aj.of (o:=⟨.ret,[(2,.sl a 0 (kG b).length g)],E6⟩) ?_ ⟨rfl,a,g,ob,rfl,h3,⟨h4.p,h4.g,h4.row,h4.ids,by rw[h4.tg,ht]⟩⟩;refine⟨0,?_⟩;simp only[jH]at h0;generalize (kG b).length=N at *;simp[-getElem?_pos,go_sem,h0,ak]
def PW{H:AM.Heap}{a:AV}(ha:fJ H a=some (.pb b))(hb:b.length<=65535):∃ ob,Rw (.pb (kG b)) 0 ob/\evT X 44 [a] H=some (.sl H.length 0 (kG b).length 0,H++[some ob]):=by
 obtain⟨c,x,hx⟩:=iy (C:=X) (f:=44) (i:=0) rfl ha (dR 1);obtain⟨code,hc,⟨out,⟨ho,a2,g,ob,h2,h4,hw⟩,hrun⟩⟩:=KA (m:=0) (c:=c) hb;obtain⟨ob',q1,q2⟩:=Ev1.Kz (C:=X) (H:=H) (bC X) (n:=(kG b).length) (l:=kG b) (rest:=[]) Try.func44 hc hx rfl (by simp[dA]) rfl rfl rfl (by
  rw[agq];refine⟨out,⟨ho,a2,g,ob,?_,h4,hw⟩,hrun⟩;show aT X out.fr out.H [.tmp 2]=_;simp[aT,h2])
 exact⟨ob',q1,dI q2⟩
end
def Ip(x:Pc):Px:=⟨(x.len:Nat),(x.dist:Nat),x.byte⟩
def adD(L:List Pc):(L.map Ip).map pxR=L.map pcR:=by
 rw[ay1];rfl
def uw(b:List UInt8):List Px:=(rC b b.length [] 0).map Ip
def iq(b:List UInt8):List UInt8:=if(kG b).length<(nN (uw b)).1.length then kG b else(nN (uw b)).1
def F5(b:List UInt8):∀ (f:Nat) (M:Pls) (p:Nat),(rC b f M p).length<=f
 | 0,_,_=>axO _
 | f+1,M,p=>by
  unfold rC;split
  .have:=F5 b f (KC b M p (max 1 (fH b M p).len)) (p+max 1 (fH b M p).len);simp;omega
  .simp
def adE{H:AM.Heap}{o g es:Nat}{ob:AM.Obj}{l:List AV}(ho:H[o]?=some (some ob))(hw:Rw (.pr es l) g ob):fJ H (.sl o 0 l.length g)=some (.pr es l):=by
 simp[fJ,live,ho,hw.g,hw.ids,hw.p,gq]
section
variable {c:Nat}{b:List UInt8}
def KD{m:Nat}(hb:b.length<=1400):∃ code,Try.f35.body=some code/\aj (lG fun fr E=>∃ a g ob,aB fr 2=.sl a 0 (iq b).length g/\E[a]?=some (some ob)/\Rw (.pb (iq b)) g ob) X (evT X) 35 m code [(0,.ro c (.pb b) 1)] []:=by
 refine⟨_,rfl,?_⟩;apply aj.seq (fr':=[(0,.ro c (.pb b) 1)]) (H':=[some (⟨.pb [],0,none,0,true,false,0⟩:AM.Obj)])
 .apply Pe;simp[-getElem?_pos,go_sem,ak,rowOf,ahN]
 obtain⟨ob1,w1,e1⟩:=UF (H:=[some (⟨.pb [],0,none,0,true,false,0⟩:AM.Obj)]) (a:=.ro c (.pb b) 1) (b:=b) rfl hb;have hlen:=F5 b b.length [] 0;obtain⟨ob2,w2,e2⟩:=UC (H:=[some (⟨.pb [],0,none,0,true,false,0⟩:AM.Obj),some ob1]) (a:=.sl 1 0 (rC b b.length [] 0).length 0) (l:=uw b) (by
  unfold uw;rw[adD];have:=adE (H:=[some (⟨.pb [],0,none,0,true,false,0⟩:AM.Obj),some ob1]) (o:=1) rfl w1
  rwa [ayB]at this) (by unfold uw;rw[ayB];omega)
 obtain⟨ob3,w3,e3⟩:=PW (H:=[some (⟨.pb [],0,none,0,true,false,0⟩:AM.Obj),some ob1,some ob2]) (a:=.ro c (.pb b) 1) (b:=b) rfl (by omega);simp only[axY,ax3,ayj,ax8]at e1 e2 e3;unfold iq;have g2:=w2.g;have g3:=w3.g;generalize hr0:some (⟨.pb [],0,none,0,true,false,0⟩:AM.Obj)=r0 at *;apply aj.seq (fr':=[(0,.ro c (.pb b) 1),(3,.sl 2 0 (nN (uw b)).1.length 0)]) (H':=[r0,some ob1,some ob2])
 .generalize (rC b b.length [] 0).length=N1 at *;generalize (nN (uw b)).1.length=N2 at *;generalize (nN (uw b)).2=er at *;apply Pe;simp[-getElem?_pos,go_sem,e1,e2,ak]
 apply aj.assoc;apply aj.seq (fr':=[(3,.sl 2 0 (nN (uw b)).1.length 0),(5,.sl 3 0 (kG b).length 0)]) (H':=[r0,some ob1,some ob2,some ob3])
 .generalize (nN (uw b)).1.length=N2 at *;generalize (kG b).length=N3 at *;apply Pe;simp[-getElem?_pos,go_sem,e3,ak]
 apply aj.assoc;by_cases hlt:(kG b).length<(nN (uw b)).1.length
 .rw [if_pos hlt];have hI:((kG b).length:Int)<((nN (uw b)).1.length:Int):=by omega
  refine aj.of (o:=⟨.ret,[(2,.sl 3 0 (kG b).length 0)],[r0,some ob1,some ob2,some ob3]⟩) ?_ ⟨rfl,3,0,ob3,rfl,rfl,w3⟩;generalize (nN (uw b)).1.length=N2 at *;generalize (kG b).length=N3 at *;apply Run.seq (fr':=[(3,.sl 2 0 N2 0),(5,.sl 3 0 N3 0),(18,.bool true)]) (H':=[r0,some ob1,some ob2,some ob3])
  .apply Pe;simp[-getElem?_pos,go_sem,g2,g3,hI,hlt]
  .refine ⟨0,?_⟩;simp[-getElem?_pos,go_sem,ak]
 .rw [if_neg hlt];have hI:¬ ((kG b).length:Int)<((nN (uw b)).1.length:Int):=by omega
  refine aj.of (o:=⟨.ret,[(2,.sl 2 0 (nN (uw b)).1.length 0)],[r0,some ob1,some ob2,some ob3]⟩) ?_ ⟨rfl,2,0,ob2,rfl,rfl,w2⟩;generalize (nN (uw b)).1.length=N2 at *;generalize (kG b).length=N3 at *;apply Run.seq (fr':=[(3,.sl 2 0 N2 0),(5,.sl 3 0 N3 0),(18,.bool false)]) (H':=[r0,some ob1,some ob2,some ob3])
  .apply Pe;simp[-getElem?_pos,go_sem,g2,g3,hI,hlt]
  .refine ⟨0,?_⟩;simp[-getElem?_pos,go_sem,ak]
def PX{H:AM.Heap}{a:AV}(ha:fJ H a=some (.pb b))(hb:b.length<=1400):∃ ob,Rw (.pb (iq b)) 0 ob/\evT X 35 [a] H=some (.sl H.length 0 (iq b).length 0,H++[some ob]):=by
 obtain⟨c,x,hx⟩:=iy (C:=X) (f:=35) (i:=0) rfl ha (dR 1);obtain⟨code,hc,⟨out,⟨ho,a2,g,ob,h2,h4,hw⟩,hrun⟩⟩:=KD (m:=0) (c:=c) hb;obtain⟨ob',q1,q2⟩:=Ev1.Kz (C:=X) (H:=H) (bC X) (n:=(iq b).length) (l:=iq b) (rest:=[]) Try.func35 hc hx rfl (by simp[dA]) rfl rfl rfl (by
  rw[agk];refine⟨out,⟨ho,a2,g,ob,?_,h4,hw⟩,hrun⟩;show aT X out.fr out.H [.tmp 2]=_;simp[aT,h2])
 exact⟨ob',q1,dI q2⟩
end
def Gd.one:Gd ⟨8,[1]⟩:=⟨rfl,fun i hi=>by
 unfold iU;have:1<=i/8:=by have hi':8<=i:=hi;omega
 obtain⟨q,hq⟩:∃ q,i/8=q+1:=⟨i/8-1,by omega⟩;simp only[hq];simp⟩
def aaN{B o:List UInt8}{x:UInt8}{j:Nat}(h:B[j]?=some x):iw B 8 (8*j) o=.ok (x.toNat:Nat) (8*(j+1)) o:=by
 have hj:j<B.length:=eX h;have:=zB (b:=B) (k:=8*j) (o:=o) (x:=((x.toNat:Nat):Int)) 8 (by omega) (fun i hi=>by
  unfold iU;have e1:(8*j+i)/8=j:=by omega
  have e2:(8*j+i)%8=i:=by omega
  rw[e1,e2,axQ,h]
  push_cast
  rfl)
 have hx:=x.toNat_lt;have hm:((x.toNat:Nat):Int)%2 ^ 8=(x.toNat:Nat):=azj (by omega) (by omega);rw[this,hm];rfl
def SG{B b:List UInt8}{mo:Int}{d:Nat}(hB:∀ i,i<b.length->B[d+i]?=b[i]?)(hm:(b.length:Int)<=mo):∀ n i,i+n=b.length->tH (fC (iw B 8) fun c=>qZ mo (UInt8.ofNat c.toNat)) n (8*(d+i)) (b.take i)=.ok () (8*(d+b.length)) b
 | 0,i,h=>by
  have:i=b.length:=by omega
  subst this;rw[ayM];rfl
 | n+1,i,h=>by
  have hi:i<b.length:=by omega
  have hx:b[i]?=some b[i]:=axI hi;have h1:=aaN (o:=b.take i) (x:=b[i]) ((hB i hi).trans hx);have h2:qZ mo (UInt8.ofNat (((b[i].toNat:Nat):Int)).toNat) (8*(d+i+1)) (b.take i)=.ok () (8*(d+i+1)) (b.take (i+1)):=by unfold qZ;rw[if_pos (by rw[ayc];omega),azE,hx];simp
  unfold tH;rw[eP (by rw[eP h1];exact h2)];exact SG hB hm n (i+1) (by omega)
def zA{b:List UInt8}:Gd (wK b)/\(wK b).k=40/\(wK b).o.length=5:=by
 unfold wK;rw[f13];obtain⟨a1,_,_⟩:=fQ (x:=(b.length:Nat)) Gd.one 16;obtain⟨a2,_,_⟩:=fQ (x:=-(b.length:Int)-1) a1 16;have k1:=(eU (x:=(b.length:Nat)) Gd.one.ok 16).2;have k2:=(eU (x:=-(b.length:Int)-1) a1.ok 16).2;have hk:(dG (dG ⟨8,[1]⟩ (b.length:Nat) 16) (-(b.length:Int)-1) 16).k=40:=by rw[k2,k1]
 have:=a2.ok;unfold jK at this;exact⟨a2,hk,by rw[this,hk]⟩
def uS(b:List UInt8):(kG b).length=b.length+5:=by
 unfold kG;rw[axR,zA.2.2];omega
def aaO{F:Nat}{b r:List UInt8}{mo:Int}(hb:b.length<=65535)(hm:(b.length:Int)<=mo)(hF:0<F):∃ L,ru (kG b++r) mo F F 0 []=.ok L (8*(kG b).length) b:=by
 obtain⟨F,rfl⟩:∃ g,F=g+1:=⟨F-1,by omega⟩;obtain⟨w1,w2,w3⟩:=zA (b:=b);have hlen:(kG b++r).length=5+b.length+r.length:=by rw[axR,uS];omega
 have hag:Agr (kG b++r) (wK b):=⟨by rw[w2];omega,fun i hi=>by
  unfold iU kG;rw[ayq,axQ,axL (by rw[w2]at hi;omega),<- axQ]⟩
 have hB:∀ i,i<b.length->(kG b++r)[5+i]?=b[i]?:=by intro i hi;unfold kG;rw[ayq,axS (by omega),w3,show 5+i-5=i by omega,axL hi]
 have hs:wK b=dG (dG ⟨8,[1]⟩ (b.length:Nat) 16) (-(b.length:Int)-1) 16:=by unfold wK;rw[f13]
 rw[uS];generalize kG b++r=B at *;rw[hs]at hag w2;obtain⟨a1,b1,_⟩:=fQ (x:=(b.length:Nat)) Gd.one 16;obtain⟨a2,b2,_⟩:=fQ (x:=-(b.length:Int)-1) a1 16;have x1:=Agr.ext b2 hag;have x0:=Agr.ext b1 x1;have bits:∀ i,i<8->iU B i=iU [1] i:=x0.at';have r1:iw B 1 0 []=.ok 1 1 []:=by
  have:=zB (b:=B) (k:=0) (o:=[]) (x:=1) 1 (by omega) (fun i hi=>by
   have:i=0:=by omega
   subst this;rw[bits 0 (by omega)];rfl)
  exact this
 have r2:iw B 2 1 []=.ok 0 3 []:=by
  have:=zB (b:=B) (k:=1) (o:=[]) (x:=0) 2 (by omega) (fun i hi=>by
   have:i=0\/i=1:=by omega
   rcases this with rfl|rfl
   .rw [bits 1 (by omega)];rfl
   .rw [bits 2 (by omega)];rfl)
  exact this
 have r3:=qC (o:=[]) Gd.one x1;have r4:=qC (o:=[]) a1 hag;rw[w2]at r4;have e3:((b.length:Nat):Int)%2 ^ 16=(b.length:Nat):=azj (by omega) (by omega);have e4:(-(b.length:Int)-1)%2 ^ 16=65535-(b.length:Nat):=by show(-(b.length:Int)-1)%65536=_;omega
 rw[e3]at r3;rw[e4]at r4;have r5:=SG (B:=B) (d:=5) hB hm b.length 0 (by omega);have arB:CP B mo 3 []=.ok () (8*(5+b.length)) b:=by unfold CP;rw[eP (show aaq 3 []=.ok () 8 [] from rfl),eP r3,eP r4,if_pos (by omega)];exact r5
 have hbl:CU B mo (F+1) 0 []=.ok ⟨0,true,0,b.length⟩ (8*(5+b.length)) b:=by
  unfold CU;rw[eP r1,eP r2];have hk:CS B mo (F+1) 0=CP B mo:=by unfold CS;rw[if_pos rfl]
  rw[hk,eP arB];rfl
 rw[show 8*(b.length+5)=8*(5+b.length)by omega];refine⟨[⟨0,true,0,b.length⟩],?_⟩;unfold ru;rw[eP hbl,if_pos rfl];rfl
def MJ{b:List UInt8}{i k:Nat}:∀ (f n j:Nat),n<=j->j<fE b i k f n->b[i+j]?=b[k+j]?
 | 0,n,j,h1,h2=>by unfold fE at h2;omega
 | f+1,n,j,h1,h2=>by
  unfold fE at h2;split at h2
  .rename_i hc;by_cases hj:j=n
   .subst hj;exact hc.2.2
   .exact MJ f (n+1) j (by omega) h2
  .omega
def Jc(b:List UInt8)(p:Nat):∀ (L:List Nat) (s:Nat×Nat),(∀ x∈L,x<p)->uU b p L s=s\/∃ x∈L,p-x<=32768/\uU b p L s=(fE b x p 258 0,p-x)
 | [],s,_=>.inl rfl
 | y::L,s,h=>by
  unfold uU;split
  .rename_i hc;rcases Jc b p L (if s.1<fE b y p 258 0 then(fE b y p 258 0,p-y)else s) (fun x hx=>h x (aya _ hx))with e|⟨x,hx,h1,h2⟩
   .rw [e];split
    .exact .inr ⟨y,ays ..,hc.1,rfl⟩
    .exact .inl rfl
   .exact .inr ⟨x,aya _ hx,h1,h2⟩
  .exact .inl rfl
def aaP{b:List UInt8}{p d:Nat}(hd:1<=d)(hdp:d<=p):∀ n,p+n<=b.length->(∀ j,j<n->b[p-d+j]?=b[p+j]?)->lS d n (b.take p)=b.take (p+n):=by
 suffices H:∀ n q,p<=q->q+n<=b.length->(∀ j,p<=j->j<q+n->b[j-d]?=b[j]?)->lS d n (b.take q)=b.take (q+n)by
  intro n h1 h2;exact H n p (axO _) h1 fun j hj hj2=>by
   have:=h2 (j-p) (by omega);rw[show p-d+(j-p)=j-d by omega,show p+(j-p)=j by omega]at this;exact this
 intro n;induction n with
 | zero=>intro q _ _ _;rfl
 | succ n ih=>
  intro q hq h1 h2;unfold lS;have hx:b[q]?=some b[q]:=axI (by omega);have e:(b.take q).getD ((b.take q).length-d) 0=b[q]:=by rw[ayc,ayG (by omega),axQ,ayD,if_pos (by omega),h2 q hq (by omega),hx];rfl
  rw[e];have e2:b.take q++[b[q]]=b.take (q+1):=by rw[azE,hx];rfl
  rw[e2,ih (q+1) (by omega) (by omega) fun j hj hj2=>h2 j hj (by omega),show q+1+n=q+(n+1)by omega]
def PY{b:List UInt8}{M:Pls}{p:Nat}(hM:CW M p)(hp:p<b.length):(3<=(fH b M p).len/\(fH b M p).len<=258/\1<=(fH b M p).dist/\(fH b M p).dist<=32768/\(fH b M p).dist<=p/\(fH b M p).byte=0/\lS (fH b M p).dist (fH b M p).len (b.take p)=b.take (p+(fH b M p).len))\/(fH b M p=⟨0,0,b.getD p 0⟩):=by
 have hfit:=yD (M:=M) hp;unfold fH at hfit ⊢;by_cases h3:3<=(mW b M p).1
 .rw [if_pos h3]at hfit ⊢
  left
  simp only at hfit ⊢;have PZ:=(MK (M:=M) (Nat.le_of_lt hp)).2;unfold mW at h3 hfit PZ ⊢;split at h3
  .rename_i hp3;rw[if_pos hp3]at hfit PZ ⊢;have hL:∀ x∈(lkM M (qE b p)).reverse,x<p:=by
    intro x hx;rw[List.mem_reverse]at hx;unfold lkM at hx;split at hx
    .rename_i j hj;obtain⟨_,l,hl⟩:=Ar hj;rw[azL]at hl;rw[axQ,hl]at hx;exact(hM.2 _ (axT hl)).2.2 x hx
    .cases hx
   rcases Jc b p _ (0,0) hL with e|⟨x,hx,h1,e⟩
   .rw [e]at h3;simp at h3
   .have hxp:=hL x hx;rw[e]at h3 hfit PZ ⊢;simp only at h3 hfit PZ ⊢;refine⟨h3,PZ,by omega,h1,by omega,trivial,?_⟩;refine aaP (by omega) (by omega) _ (by omega) fun j hj=>?_;rw[show p-(p-x)+j=x+j by omega];exact MJ 258 0 j (by omega) hj
  .simp at h3
 .rw [if_neg h3];exact .inr rfl
def aaQ(y:UInt8)(L:List Px)(o:List UInt8):kQ (Ip ⟨0,0,y⟩::L) o=kQ L (o++[y]):=by
 conv=>lhs;unfold kQ
 have hm:oK (Ip ⟨0,0,y⟩)=true:=by unfold oK Ip;rfl
 have h0:(Ip ⟨0,0,y⟩).len=0:=rfl;rw[if_neg (by rw[hm];simp),if_pos h0];rfl
def ML{b:List UInt8}:∀ (f:Nat) (M:Pls) (p:Nat),CW M p->p<=b.length->b.length<=p+f->kQ ((rC b f M p).map Ip) (b.take p)=(b,0)
 | 0,M,p,hM,hp,hf=>by
  have:p=b.length:=by omega
  subst this;unfold rC;rw[ayM];rfl
 | f+1,M,p,hM,hp,hf=>by
  unfold rC;by_cases hlt:p<b.length
  .rw [if_pos hlt,ax9];have hmx:1<=max 1 (fH b M p).len:=Nat.le_max_left ..;have ih:=ML f (KC b M p (max 1 (fH b M p).len)) (p+max 1 (fH b M p).len) (hM.up _) (yD hlt) (by omega);generalize rC b f (KC b M p (max 1 (fH b M p).len)) (p + max 1 (fH b M p).len)=R at *;rcases PY hM hlt with⟨h1,h2,h3,h4,h5,h6,h7⟩|h
   .have hmax:max 1 (fH b M p).len=(fH b M p).len:=by omega
    rw[hmax]at ih;unfold kQ;have hmay:oK (Ip (fH b M p))=true:=by unfold oK Ip;simp only;rw[if_neg (by omega),h6];simp;omega
    rw[if_neg (by simp[hmay])];unfold Ip;simp only;rw[if_neg (by omega),if_neg (by rw[ayc];omega)];simp only[ayA];rw[h7];exact ih
   .rw [h]at ih ⊢;have hx:b[p]?=some b[p]:=axI hlt;have hg:b.getD p 0=b[p]:=by rw[axQ,hx];rfl
    rw[aaQ,hg];have e2:b.take p++[b[p]]=b.take (p+1):=by rw[azE,hx];rfl
    rw[e2];exact ih
  .rw [if_neg hlt];have:p=b.length:=by omega
   subst this;rw[ayM];rfl
def IW(b:List UInt8):kQ (uw b) []=(b,0):=ML b.length [] 0 ⟨axO _,fun y hy=>by cases hy⟩ (ayF _) (by omega)
def Agr.app{s:Ws}(h:jK s)(r:List UInt8):Agr (s.o++r) s:=by
 unfold jK at h;refine⟨by rw[axR];omega,fun i hi=>?_⟩;unfold iU;rw[axQ,axL (by omega),<- axQ]
def RG(l:List Px):Gd (Ce l):=by
 unfold Ce;obtain⟨a1,_,_⟩:=fQ (x:=1) Gd.nil 1;obtain⟨a2,_,_⟩:=fQ (x:=1) a1 2;exact(qY (FB l a2).1).1
def Yg{F:Nat}{out r:List UInt8}{mo:Int}{l:List Px}(he:kQ l []=(out,0))(hm:(out.length:Int)<=mo)(hF:l.length<F):∃ L k,ru ((nN l).1++r) mo F F 0 []=.ok L k out/\(k+7)/8=(nN l).1.length:=by
 have hf:(nN l).1=(Ce l).o:=by unfold nN;rw[he];rfl
 have hg:=(RG l).ok;obtain⟨L,h⟩:=aaI (F:=F) he (Agr.app hg r) hm hF;rw[hf];unfold jK at hg;exact⟨L,_,h,hg.symm⟩
def UG{F:Nat}{b r:List UInt8}{mo:Int}(hb:b.length<=65535)(hm:(b.length:Int)<=mo)(hF:b.length<F):∃ L k,ru (iq b++r) mo F F 0 []=.ok L k b/\(k+7)/8=(iq b).length:=by
 unfold iq;split
 .obtain ⟨L,h⟩:=aaO (F:=F) (r:=r) hb hm (by omega);exact⟨L,_,h,by omega⟩
 .refine Yg (IW b) hm ?_;have:=F5 b b.length [] 0;unfold uw;rw[ayB];omega
def Jd{F:Nat}{b r:List UInt8}{mo:Int}(hb:b.length<=65535)(hm:(b.length:Int)<=mo)(hF:b.length<F):wM F (iq b++r) mo=(b,(((iq b).length:Nat):Int),0):=by
 obtain⟨L,k,h,hk⟩:=UG (F:=F) (r:=r) hb hm hF;rw[aaJ ⟨L,h⟩ hm,hk]
def Yh(b:List UInt8):(iq b).length<=b.length+5:=by
 unfold iq;split
 .rw [uS];exact axO _
 .rename_i h;rw[uS]at h;omega
def lo1(lo:Int)(b:UInt8):Int:=(IntKind.u32.wrap (lo+IntKind.u32.wrap (b.toNat:Int))).tmod 65521
def hi1(lo hi:Int)(b:UInt8):Int:=(IntKind.u32.wrap (hi+lo1 lo b)).tmod 65521
def mX:Int->Int->List UInt8->Int×Int
 | lo,hi,[]=>(lo,hi)
 | lo,hi,b::r=>mX (lo1 lo b) (hi1 lo hi b) r
def MN(lo hi:Int):Int:=IntKind.u32.wrap ((AM.bits .u32 (IntKind.u32.wrap (hi*2 ^ (min 16 32)))||| AM.bits .u32 lo).toNat)
def adl(l:List UInt8):Nat:=(MN (mX 1 0 l).1 (mX 1 0 l).2).toNat
def Je(n:Int):0<=IntKind.u32.wrap n/\IntKind.u32.wrap n<4294967296:=by
 have h:IntKind.u32.wrap n=n%4294967296:=by simp[IntKind.wrap,IntKind.signed,IntKind.bits]
 rw[h];omega
def Yi(l:List UInt8):MN (mX 1 0 l).1 (mX 1 0 l).2=(adl l:Nat):=by
 unfold adl MN;have:=Je (((AM.bits .u32 (IntKind.u32.wrap ((mX 1 0 l).2*2 ^ (min 16 32)))||| AM.bits .u32 (mX 1 0 l).1).toNat:Nat):Int);omega
def Py(l:List UInt8):adl l<4294967296:=by
 have h1:=Yi l;unfold MN at h1;have:=Je (((AM.bits .u32 (IntKind.u32.wrap ((mX 1 0 l).2*2 ^ (min 16 32)))||| AM.bits .u32 (mX 1 0 l).1).toNat:Nat):Int);omega
def be4(s:Nat):List UInt8:=[UInt8.ofNat (s/16777216),UInt8.ofNat (s/65536),UInt8.ofNat (s/256),UInt8.ofNat s]
def un4(r:List UInt8):Nat:=(r.getD 0 0).toNat * 16777216 + (r.getD 1 0).toNat * 65536 + (r.getD 2 0).toNat * 256 + (r.getD 3 0).toNat
def aaR{s:Nat}(h:s<4294967296)(r:List UInt8):un4 (be4 s++r)=s:=by
 unfold un4 be4;simp only[ayj,List.getD_cons_zero,az4,ayU];omega
def jI(b:List UInt8):List UInt8:=[120,1]++iq b++be4 (adl b)
def qW(b:List UInt8):Int:=if b.length<2 then 4 else
 if(b.getD 0 0).toNat % 16≠8\/7<(b.getD 0 0).toNat/16\/(b.getD 1 0).toNat/32 % 2≠0\/((b.getD 0 0).toNat * 256 + (b.getD 1 0).toNat) % 31≠0 then 5 else 0
def zy(F:Nat)(b:List UInt8)(mo:Int):List UInt8×Int :=
 if mo<0 then([],2)else if qW b≠0 then([],qW b)else if(wM F (b.drop 2) mo).2.2≠0 then([],(wM F (b.drop 2) mo).2.2)else
  if(b.drop (2+(wM F (b.drop 2) mo).2.1.toNat)).length<4 then([],4)else if un4 (b.drop (2+(wM F (b.drop 2) mo).2.1.toNat))≠adl (wM F (b.drop 2) mo).1 then([],8)else
  if 4<(b.drop (2+(wM F (b.drop 2) mo).2.1.toNat)).length then([],5)else((wM F (b.drop 2) mo).1,0)
def UH(l:List UInt8):qW ([120,1]++l)=0:=by
 unfold qW;rw[if_neg (by simp)];simp
def aaS{F:Nat}{b r:List UInt8}{mo:Int}(hb:b.length<=65535)(hm:(b.length:Int)<=mo)(hF:b.length<F):zy F ([120,1]++iq b++r) mo =
 if r.length<4 then([],4)else if un4 r≠adl b then([],8)else if 4<r.length then([],5)else(b,0):=by
 have h:=Jd (F:=F) (r:=r) hb hm hF;have hd:([120,1]++iq b++r).drop 2=iq b++r:=by simp
 have hd2:([120,1]++iq b++r).drop (2+(iq b).length)=r:=by rw[<- azc,hd,List.drop_left]
 unfold zy;rw[if_neg (by omega),ayq,UH,if_neg (by simp),<- ayq,hd,h];simp only;rw[if_neg (by simp),ayA,hd2]
def V9{F:Nat}{b:List UInt8}{mo:Int}(hb:b.length<=65535)(hm:(b.length:Int)<=mo)(hF:b.length<F):zy F (jI b) mo=(b,0):=by
 unfold jI;rw[aaS hb hm hF,if_neg (by simp[be4]),if_neg (by
  have:=aaR (Py b) [];rw[ax1]at this;simp[this]),if_neg (by simp[be4])]
def aaT{T e:Nat}{H:AM.Heap}(hT:und X T=.slice e)(hs:sizeT X e=1)(hb:bH X e=8)(hz:bM X e=true){o g t:Nat}{ob:AM.Obj}{l:List Int}{y:Int}
 (ho:H[o]?=some (some ob))(h:RwT (.pi .i64 l) g t ob)(hn:l.length<=10000000) :
 ∃ ob',RwT (.pi .i64 (l++[y])) (g+1) t ob'/\bG X H T (.sl o 0 l.length g) (.ro 1 (.pi .i64 [y]) 0)=some (.sl o 0 (l.length+1) (g+1),upd H o (some ob')):=by
 have hlive:live H o g=some ob:=by simp[live,ho,h.g]
 have hroom:dQ X e (l.length+1)=true:=by simp[dQ,hb];omega
 have hj:dJ t 0=some t:=by
  unfold dJ;by_cases h0:t=0
  .rw [if_pos h0,h0]
  .rw [if_neg h0,if_pos (.inl rfl)]
 have hsrc:gJ H (.ro 1 (.pi .i64 [y]) 0)=some (.pi .i64 [y],0):=by simp[gJ,jq,kH]
 refine⟨{ ob with p:=.pi .i64 (l++[y]),g:=g+1,cap:=(match ob.cap with|some c=>if 0+l.length+AM.ah (.pi .i64 [y])<=c then some (c-0)else none|none=>none),z:=(if AM.ah ob.p=0 then ob.z else 1),tg:=t },⟨rfl,rfl,h.row,h.ids,rfl⟩,?_⟩;unfold bG;simp only[hT,hs,hz,hsrc,hlive,h.row,h.ids,h.p,h.tg];simp only[show ¬ ((1:Nat)=0\/true=false)by simp,if_false];have hc:True/\True/\0+l.length=AM.ah (.pi .i64 l)/\aS (.pi .i64 l)=1/\dQ X e (l.length+AM.ah (.pi .i64 [y]))=true:=⟨trivial,trivial,by simp[AM.ah],rfl,by simpa[AM.ah]using hroom⟩;rw[if_pos hc];simp only[gq,ayg,axO,if_true,ayZ,ayM,l9,hj,aS];simp[AM.ah];rfl
def LsV(t:Nat)(H:AM.Heap)(la:Option Nat)(lv:AV)(l:List Int):Prop:=match la with
 | none=>l=[]/\∃ τ,(τ=0\/τ=t)/\lv=.ro 0 .pn τ
 | some a=>∃ g τ ob,(τ=0\/τ=t)/\lv=.sl a 0 l.length g/\H[a]?=some (some ob)/\RwT (.pi .i64 l) g τ ob
def bxO(v:AV)(τ:Nat):AM.Obj:=⟨.pc [v],0,some 1,1,false,true,τ⟩
structure AgV (c:Nat) (b:List UInt8) (mo n:Int) (t:Nat) (H:AM.Heap) (lb nb rb o:Nat) (la oa:Option Nat) (acc:List Int) (s:Is):Prop where
 l:∃ lv τ,(τ=0\/τ=t)/\H[lb]?=some (some (bxO lv τ))/\LsV t H la lv acc
 n:∃ τ,(τ=0\/τ=t)/\H[nb]?=some (some (bxO (.int .i64 n) τ))
 r:∃ τ,(τ=0\/τ=t)/\H[rb]?=some (some (bxO (.ptr o 0 0 0) τ))
 d:IrV c b mo t H o oa s
 nd:([lb,nb,rb,o]++la.toList++oa.toList).Nodup
structure AgS (c:Nat) (b:List UInt8) (mo n:Int) (S:List AM.Obj) (lb nb rb o:Nat) (la oa:Option Nat) (acc:List Int) (s:Is):Prop where
 l:S[lb]?=some (bxO (match la with|none=>.ro 0 .pn 0|some a=>.sl a 0 acc.length 0) 0)
 pl:match la with|none=>acc=[]|some a=>S[a]?=some ⟨.pi .i64 acc,0,none,0,true,false,0⟩
 n:S[nb]?=some (bxO (.int .i64 n) 0)
 r:S[rb]?=some (bxO (.ptr o 0 0 0) 0)
 d:S[o]?=some (fU c b mo s (match oa with|none=>.ro 0 .pn 0|some a=>.sl a 0 s.o.length 0) 0 0)
 po:match oa with|none=>s.o=[]|some a=>S[a]?=some ⟨.pb s.o,0,none,0,true,false,0⟩
 nd:([lb,nb,rb,o]++la.toList++oa.toList).Nodup
section
variable {c:Nat}{b:List UInt8}{mo n:Int}{t:Nat}{H:AM.Heap}{lb nb rb o:Nat}{la oa:Option Nat}{acc:List Int}{s:Is}{π:List (Nat×Nat)}{S:List AM.Obj}
def Img.bx1(h:Img t H π S){k:Nat}{v:AV}(hk:S[k]?=some (bxO v 0)):π[k]?=some (sg π k,0)/\∃ x τ,(τ=0\/τ=t)/\H[sg π k]?=some (some (bxO x τ))/\ren idN tz x=ren (gQ π) tz v/\∀ u∈tags x,u=0\/u=t:=by
 obtain⟨o,g,ob,h1,h2,h3⟩:=h.ob k _ hk;obtain⟨rfl,p,τ,rfl,hτ,hp,ht⟩:=Like.box h3;have hs:=lF h1;rw[hs];simp only[ren,bU]at hp;obtain⟨l1,rfl,k1⟩:=wV hp;obtain⟨x,l2,rfl,e1,k2⟩:=fM k1;obtain rfl:=qg k2;exact⟨h1,x,τ,hτ,h2,e1,fun u hu=>ht u (by simpa[tags,aW]using hu)⟩
def Yj(h:Img t H π S){l:List Nat}(hn:l.Nodup)(hl:∀ x∈l,x<S.length):(l.map (sg π)).Nodup:=by
 rw[ayu,azD];refine List.Pairwise.imp_of_mem ?_ (ayu.1 hn);intro a b ha hb hne e;exact hne (h.KE (hl a ha) (hl b hb) e)
def AgV.nP(h:Img t H π S)(hs:AgS c b mo n S lb nb rb o la oa acc s):AgV c b mo n t H (sg π lb) (sg π nb) (sg π rb) (sg π o) (la.map (sg π)) (oa.map (sg π)) acc s:=by
 have hlt:∀ {k:Nat} {x:AM.Obj},S[k]?=some x->k<S.length:=fun h=>eX h;have hnd:(([lb,nb,rb,o]++la.toList++oa.toList).map (sg π)).Nodup:=by
  refine Yj h hs.nd ?_;intro x hx;simp only[axV,ax2,ayK,or_false]at hx;rcases hx with((rfl|rfl|rfl|rfl)|hx)|hx
  .exact hlt hs.l
  .exact hlt hs.n
  .exact hlt hs.r
  .exact hlt hs.d
  .cases la with
   | none=>simp at hx
   | some a=>simp at hx;subst hx;exact hlt hs.pl
  .cases oa with
   | none=>simp at hx
   | some a=>simp at hx;subst hx;exact hlt hs.po
 have arC:([sg π lb,sg π nb,sg π rb,sg π o]++(la.map (sg π)).toList++(oa.map (sg π)).toList).Nodup:=by cases la<;>cases oa<;>simpa using hnd
 refine⟨?_,?_,?_,⟨?_,?_⟩,arC⟩
 .obtain ⟨_,x,τ,hτ,hb,hx,ht⟩:=Img.bx1 h hs.l;refine⟨x,τ,hτ,hb,?_⟩;have hla:=hs.pl;cases la with
  | none=>
   simp only[ren]at hx;obtain⟨τ2,rfl⟩:=wW hx;exact⟨hla,τ2,ht τ2 (by simp[tags]),rfl⟩
  | some a=>
   obtain⟨o2,g2,ob,p1,p2,p3⟩:=h.ob a _ hla;simp only[ren,gQ,p1]at hx;obtain rfl:=CB hx;obtain⟨q1,q2⟩:=Like.row' p3 rfl;exact⟨g2,ob.tg,ob,q2,by rw[lF p1],by rw[lF p1];exact p2,q1⟩
 .obtain ⟨_,x,τ,hτ,hb,hx,ht⟩:=Img.bx1 h hs.n;simp only[ren]at hx;obtain rfl:=nR hx;exact⟨τ,hτ,hb⟩
 .obtain ⟨_,x,τ,hτ,hb,hx,ht⟩:=Img.bx1 h hs.r;obtain⟨o2,g2,ob,p1,p2,p3⟩:=h.ob o _ hs.d;have hg:=(p3.bx rfl).2.2;subst hg;simp only[ren,gQ,p1]at hx;obtain rfl:=aaU hx;exact⟨τ,hτ,by rw[lF p1];exact hb⟩
 .obtain ⟨o2,g2,ob,p1,p2,p3⟩:=h.ob o _ hs.d;rw[lF p1];obtain⟨rfl,p,τ,rfl,hτ,hp,ht⟩:=Like.box p3;simp only[ren,bU]at hp;obtain⟨l1,rfl,k1⟩:=wV hp;obtain⟨x1,l2,rfl,e1,k2⟩:=fM k1;obtain⟨x2,l3,rfl,e2,k3⟩:=fM k2;obtain⟨x3,l4,rfl,e3,k4⟩:=fM k3;obtain⟨x4,l5,rfl,e4,k5⟩:=fM k4;obtain⟨x5,l6,rfl,e5,k6⟩:=fM k5;obtain rfl:=qg k6;obtain⟨τ1,rfl⟩:=wW e1;obtain rfl:=nR e2;obtain rfl:=nR e4;obtain rfl:=nR e5;have hτ1:τ1=0\/τ1=t:=ht τ1 (by simp[tags,aW]);refine⟨x3,τ1,τ,hτ1,hτ,p2,?_⟩;have hoa:=hs.po;cases oa with
  | none=>
   simp only[ren]at e3;obtain⟨τ2,rfl⟩:=wW e3;exact⟨hoa,τ2,ht τ2 (by simp[tags,aW]),rfl⟩
  | some a=>
   obtain⟨o3,g3,ob3,r1,r2,r3⟩:=h.ob a _ hoa;simp only[ren,gQ,r1]at e3;obtain rfl:=CB e3;obtain⟨q1,q2⟩:=Like.row' r3 rfl;exact⟨g3,ob3.tg,ob3,q2,by rw[lF r1],by rw[lF r1];exact r2,q1⟩
 .intro a ha;cases oa with
  | none=>cases ha
  | some a'=>
   simp only[axM,axH]at ha;subst ha;intro e;have:=h.KE (hlt hs.po) (hlt hs.d) e;subst this;have hn:=hs.nd;cases la<;>simp at hn
end
end Go.Proofs.Ytbodincpjijdiaa
