/- G1 to WZ: texts of this claim, one behind the other; what each shows stands at its head. -/
import Derived.Test.YtbodincpjijdiaaAm4
import Derived.Test.YtbodincpjijdiaaMg0
set_option linter.defProp false
set_option linter.unusedSimpArgs false
set_option linter.unusedVariables false
set_option maxRecDepth 100000
set_option maxHeartbeats 8000000
namespace Go.Proofs.Ytbodincpjijdiaa
open Go.AM
def leV:List UInt8->Nat
 | []=>0
 | b::r=>b.toNat+256*leV r
def leB:Nat->Nat->List UInt8
 | 0,_=>[]
 | n+1,x=>UInt8.ofNat (x%256)::leB n (x/256)
def kU:∀ n x,(leB n x).length=n
 | 0,_=>rfl
 | n+1,x=>by simp[leB,kU n]
def KQ:∀ l:List UInt8,leV l<256 ^ l.length
 | []=>by simp[leV]
 | b::r=>by
  have:=KQ r;have:=b.toNat_lt;simp only[leV,axY,aAb];omega
def OW(b:UInt8):∀ l:List UInt8,leV (l++[b])=leV l + b.toNat * 256 ^ l.length
 | []=>by simp[leV]
 | c::r=>by
  simp only[ayj,leV,OW b r,axY,aAb,Nat.mul_add];rw[ayS (256 ^ r.length) 256,<- Nat.mul_assoc,<- Nat.mul_assoc,ayS 256 b.toNat];omega
def ER:∀ n x,leV (leB n x)=x%256 ^ n
 | 0,x=>by simp[leB,leV];omega
 | n+1,x=>by
  simp only[leB,leV,ER n];have h:(UInt8.ofNat (x%256)).toNat=x%256:=by simp
  rw[h,aAb,ayS (256 ^ n) 256,Nat.mod_mul]
def OX:∀ n x,leB (n+1) x=leB n x++[UInt8.ofNat (x/256 ^ n%256)]
 | 0,x=>by simp[leB]
 | n+1,x=>by
  rw[leB,OX n (x/256),leB];simp only[ayj];rw[Nat.div_div_eq_div_mul,aAb,ayS]
def L6(i:Nat):(256:Nat) ^ i=2 ^ (8*i):=by rw[Nat.pow_mul]
def aiY{x y i:Nat}(hx:x<256 ^ i)(hy:y<256)(hi:i<8) :
 IntKind.u64.wrap ((AM.bits .u64 (x:Int)||| AM.bits .u64 (IntKind.u64.wrap ((y:Int)*2 ^ (8*i)))).toNat:Nat)=((x+y*256 ^ i:Nat):Int):=by
 have hp:(256:Nat) ^ i<=256 ^ 7:=ayo (by omega) (by omega);have hm:y*256 ^ i<=255*256 ^ 7:=Nat.mul_le_mul (by omega) hp;have hpi:((y:Int)*2 ^ (8*i))=((y*256 ^ i:Nat):Int):=by rw[L6];simp
 have hxx:x<18446744073709551616:=by omega
 rw[hpi,wrap_u64 (n:=((y*256 ^ i:Nat):Int)) (by omega) (by omega)];have hb:∀ v:Nat,v<18446744073709551616->(AM.bits .u64 (v:Int)).toNat=v:=by intro v hv;unfold AM.bits;simp[IntKind.bits];omega
 have e:(AM.bits .u64 (x:Int)||| AM.bits .u64 ((y*256 ^ i:Nat):Int)).toNat=x+y*256 ^ i:=by rw[show(AM.bits .u64 (x:Int)||| AM.bits .u64 ((y*256 ^ i:Nat):Int)).toNat=(AM.bits .u64 (x:Int)).toNat||| (AM.bits .u64 ((y*256 ^ i:Nat):Int)).toNat by simp];rw[hb x hxx,hb _ (by omega),L6,<- Nat.shiftLeft_eq,Nat.or_comm,<- Nat.shiftLeft_add_eq_or_of_lt (by rw[<- L6];exact hx),azH]
 rw[e,wrap_u64 (by omega) (by omega)]
def take_snoc{l:List UInt8}{i:Nat}{y:UInt8}(h:l[i]?=some y):l.take (i+1)=l.take i++[y]:=by
 rw[azE,h];rfl
def rfR(b:List UInt8)(n:Int):Int×Int :=
 if n<1\/8<n then(0,2)else if(b.length:Int)<n then(0,4)else((leV (b.take n.toNat):Nat),0)
section
variable (T:Cf)(c:Nat)(b:List UInt8)(n:Nat)
def OY(i:Nat)(x:Nat):AM.Frame:=[(0,.ro c (.pb b) 1),(6,.int .u64 (x:Nat)),(18,.int .i64 (n:Nat)),(19,.int .i64 (i:Nat))]
def wU(n:Int)(hb:b.length<9223372036854775808):∃ code,Try.f39.body=some code /\
 Run X T 39 0 code [(0,.ro c (.pb b) 1),(1,.int .i64 n)] [] ⟨.ret,[(4,.int .u64 (rfR b n).1),(5,.int .i64 (rfR b n).2)],[]⟩:=by
 refine⟨_,rfl,?_⟩;unfold rfR;by_cases h1:n<1
 .rw [if_pos (.inl h1)];refine⟨0,?_⟩;simp[-getElem?_pos,go_sem,h1]
 by_cases h8:8<n
 .rw [if_pos (.inr h8)];refine⟨0,?_⟩;simp[-getElem?_pos,go_sem,h1,h8]
 rw[if_neg (by omega)];by_cases hl:(b.length:Int)<n
 .rw [if_pos hl];refine⟨0,?_⟩;simp[-getElem?_pos,go_sem,h1,h8,hl]
 rw[if_neg hl];obtain⟨n,rfl⟩:∃ m:Nat,n=(m:Int):=⟨n.toNat,by omega⟩;rw[ayA];apply Run.seq
 ·(refine⟨0,?_⟩;conv=>lhs;simp[-getElem?_pos,go_sem])
 apply Run.seq
 ·(refine⟨0,?_⟩;conv=>lhs;simp[-getElem?_pos,go_sem,h1,h8])
 apply Run.seq
 ·(refine⟨0,?_⟩;conv=>lhs;simp[-getElem?_pos,go_sem,hl])
 apply Run.seq
 ·(refine⟨0,?_⟩;conv=>lhs;simp[-getElem?_pos,go_sem])
 apply Run.seq (fr':=OY c b n n (leV (b.take n))++[(20,.bool false)]) (H':=[])
 .apply Run.seq (fr':=OY c b n 0 0) (H':=[])
  .apply Pe;simp[-getElem?_pos,go_sem,OY]
  .apply Run.iM;refine Run.mY (σ:=Nat) (fun i=>i<=n) (fun i=>OY c b n i (leV (b.take i))) (fun _=>[]) (fun _=>⟨.exit 0,OY c b n n (leV (b.take n))++[(20,.bool false)],[]⟩) (fun i=>n-i) ?_ 0 (ayF _);intro i hi;simp only;by_cases hin:i=n
   .right
    refine⟨?_,by simp⟩;subst hin;apply Pe;simp[-getElem?_pos,go_sem,OY]
   .left
    have hlt:i<b.length:=by omega
    have hiI:(i:Int)<(n:Int):=by omega
    obtain⟨y,hy⟩:∃ y,b[i]?=some y:=⟨b[i],axI hlt⟩;have hx:=KQ (b.take i);rw[ayc,ayG (by omega)]at hx;have hor:=aiY hx y.toNat_lt (show i<8 by omega);have hsn:=OW y (b.take i);rw[<- take_snoc hy,ayc,ayG (by omega)]at hsn;rw[<- hsn]at hor;refine⟨i+1,by omega,?_,trivial,by omega⟩;have w1:IntKind.i64.wrap ((i:Int)+1)=((i+1:Nat):Int):=by rw[wrap_i64 (by omega) (by omega)];omega
    have w8:IntKind.i64.wrap (8*(i:Int))=((8*i:Nat):Int):=by rw[wrap_i64 (by omega) (by omega)];omega
    have wy:IntKind.u64.wrap (y.toNat:Int)=(y.toNat:Int):=wrap_u64 (by omega) (by have:=y.toNat_lt;omega);have hm:min (8*i) 64=8*i:=by omega
    have hm0:¬ (((8*i:Nat):Int)<0):=by omega
    generalize h8i:8 * i=i8 at *;apply Pe;simp[-getElem?_pos,go_sem,OY,hiI,hlt,hy,w8,wy,hm,hm0,w1,IntKind.bits];exact hor
 refine⟨0,?_⟩;simp[-getElem?_pos,go_sem,OY]
end
def pG:AM.Obj:=⟨.pb [],0,.none,0,true,false,0⟩
def KP:Rw (.pb []) 0 pG:=⟨rfl,rfl,rfl,rfl,rfl⟩
def emB:rowOf (dh X 5) .none 0=pG:=by simp[dh,rowOf,pG]
def YJ{H:AM.Heap}{o g:Nat}{ob:AM.Obj}{l m:List UInt8}{src:AV}(ho:H[o]?=some (some ob))(h:Rw (.pb l) g ob)(hsrc:gJ H src=some (.pb m,0)\/(gJ H src=some (.pn,0)/\m=[]))(hn:l.length+m.length<=100000000) :
 ∃ ob',Rw (.pb (l++m)) (g+1) ob'/\bG X H 22 (.sl o 0 l.length g) src=some (.sl o 0 (l.length+m.length) (g+1),upd H o (some ob')) :=
 Dc (by simp) (Ai) (by simp) (by simp) (by simp) ho h hsrc hn
def ab1{H:AM.Heap}{m:List UInt8}{src:AV}(hsrc:gJ H src=some (.pb m,0)\/(gJ H src=some (.pn,0)/\m=[]))(hn:m.length<=100000000) :
 bG X H 22 (.ro 1 (.pb []) 0) src=some (.sl H.length 0 m.length 0,H++[some ⟨.pb m,0,.none,1,true,false,0⟩]):=by
 have hroom:dQ X 5 m.length=true:=by simp[dQ];omega
 simp only[bG,lM,nO,vN];rcases hsrc with h|⟨h,rfl⟩
 .simp [h,jq,ah,hroom,l9,dh,aS]
 .simp only[ax3]at hroom;simp[h,jq,ah,hroom,l9,dh,aS]
def asE{H:AM.Heap}{c t:Nat}{p:AV}{l:List UInt8}(hp:PB p l):gJ H (.ro c p t)=some (.pb l,0)\/(gJ H (.ro c p t)=some (.pn,0)/\l=[]):=by
 rcases hp with rfl|⟨rfl,rfl⟩
 .left;rfl
 .right;exact⟨rfl,rfl⟩
def bs0(H:AM.Heap):bT X H 22 0 []=some (.ro 1 (.pb []) 0,H):=by kernel_rfl
def coB{p:AV}{b:List UInt8}{c t:Nat}{r:List AV}{ts:List TypeId}(hp:PB p b):coerce X (.ro c p t::r) (22::ts)=.ro c (.pb b) t::coerce X r ts:=by
 rcases hp with rfl|⟨rfl,rfl⟩
 .simp [coerce]
 .simp [coerce,dh]
section
variable (T:Cf)(c:Nat)(b:List UInt8)
def Rn(hc:c=0->b=[])(hb:b.length<=100000000):∃ code,Try.f36.body=some code /\
 aj (lG fun fr H=>∃ o g ob,aB fr 2=.sl o 0 b.length g/\H[o]?=some (some ob)/\Rw (.pb b) g ob) X T 36 0 code [(0,.ro c (.pb b) 1)] []:=by
 refine⟨_,rfl,?_⟩;by_cases h0:c=0
 .have hbn:=hc h0;subst hbn;subst h0;refine aj.of (o:=⟨.ret,[(2,.sl 1 0 0 0)],[some pG,some pG]⟩) ?_ ⟨rfl,1,0,pG,rfl,rfl,KP⟩;refine⟨0,?_⟩;simp[-getElem?_pos,go_sem,ak,emB,isNil,jW]
 .have hA:=ab1 (H:=[some pG]) (asE (H:=[some pG]) (c:=c) (t:=1) (.inl rfl)) hb;refine aj.of (o:=⟨.ret,[(2,.sl 1 0 b.length 0)],[some pG,some ⟨.pb b,0,.none,1,true,false,0⟩]⟩) ?_ ⟨rfl,1,0,_,rfl,rfl,⟨rfl,rfl,rfl,rfl,rfl⟩⟩;refine⟨0,?_⟩;simp[-getElem?_pos,go_sem,ak,emB,isNil,jW,h0,bs0,hA]
end
def ZR{H:AM.Heap}{a:AV}{b:List UInt8}(h:Byt H a b)(hb:b.length<=100000000):∃ ob,Rw (.pb b) 0 ob/\evT X 36 [a] H=some (.sl H.length 0 b.length 0,H++[some ob]):=by
 obtain⟨c,p,x,hp,hc,hx⟩:=sD (C:=X) (f:=36) (i:=0) rfl h (dR 1);obtain⟨code,hcode,hr⟩:=Rn (evT X) c b hc hb;obtain⟨ob,h1,h2⟩:=Ev1.Kz (H:=H) (n:=b.length) (l:=b) (rest:=[]) (bC X) Try.func36 hcode hx (by simp[aC,ids,hp.ids]) (by simp[dA]) rfl rfl rfl (by
  obtain⟨o,⟨he,o1,g,ob,q1,q2,q3⟩,hrun⟩:=hr;exact⟨o,⟨he,o1,g,ob,congrArg (fun v=>some [v]) q1,q2,q3⟩,by rw[agl,coB hp];exact hrun⟩)
 exact⟨ob,h1,dI h2⟩
def bs1(H:AM.Heap)(y:UInt8):bT X H 22 1 [(0,.int .u8 (y.toNat:Nat))]=some (.ro 1 (.pb [y]) 0,H):=by
 have:=y.toNat_lt;have h1:(y.toNat:Int)<256:=by omega
 simp[bT,iY,qN,mkRow,jJ,eF,cellsOf,scalars,scalar,aC,ids,aW,tags,bY,h1]
def Ud{x i:Nat}(hi:i<8):Int.fdiv (x:Int) (2 ^ (min (8*i) 64))=((x/256 ^ i:Nat):Int):=by
 rw[ayG (by omega),L6];rw[show((2:Int) ^ (8*i))=((2 ^ (8*i):Nat):Int)by simp];rw[ayH _ (Int.natCast_nonneg _)];exact(Int.natCast_ediv _ _).symm
def VJ(z:Nat):IntKind.u8.wrap (z:Int)=((UInt8.ofNat (z%256)).toNat:Nat):=by
 have:(UInt8.ofNat (z%256)).toNat=z%256:=by simp
 rw[this];unfold IntKind.wrap;simp[IntKind.signed,IntKind.bits]
section
variable (c:Nat)(b:List UInt8)(x n:Nat)
def OZ(i:Nat):AM.Frame:=[(1,.int .u64 (x:Nat)),(8,.sl 1 0 (b.length+i) i),(29,.int .i64 (n:Nat)),(30,.int .i64 (i:Nat))]
def ab2(hc:c=0->b=[])(hb:b.length<=90000000)(h1:1<=n)(h8:n<=8)(hx:x<256 ^ n):∃ code,Try.f26.body=some code /\
 aj (lG fun fr H=>∃ o g ob,aB fr 6=.sl o 0 (b.length+n) g/\aB fr 7=.int .i64 0/\H[o]?=some (some ob)/\Rw (.pb (b++leB n x)) g ob) X (evT X) 26 0 code [(0,.ro c (.pb b) 1),(1,.int .u64 (x:Nat)),(2,.int .i64 (n:Nat))] []:=by
 refine⟨_,rfl,?_⟩;obtain⟨ob0,hw0,hC⟩:=ZR (H:=[some pG]) (a:=.ro c (.pb b) 1) (b:=b) (Byt.ro (.inl rfl) hc) (by omega);have g1:¬ (n:Int)<1:=by omega
 have g8:¬ (8:Int)<(n:Int):=by omega
 have hz:(n:Int)<8->Int.fdiv (x:Int) (2 ^ (min (8*n) 64))=0:=by intro h;rw[Ud (by omega),azy hx];rfl
 have w8:IntKind.i64.wrap (8*(n:Int))=((8*n:Nat):Int):=by rw[wrap_i64 (by omega) (by omega)];omega
 have hn0:¬ (((8*n:Nat):Int)<0):=by omega
 have hmb:IntKind.u64.bits=64:=rfl;apply aj.seq
 ·(refine⟨0,?_⟩;conv=>lhs;simp[-getElem?_pos,go_sem,ak,emB])
 apply aj.seq (fr':=[(0,.ro c (.pb b) 1),(1,.int .u64 (x:Nat)),(2,.int .i64 (n:Nat)),(26,.bool false)]) (H':=[some pG])
 .by_cases h:(n:Int)<8
  .have hz:=hz h;generalize 8 * n=n8 at *;apply Pe;simp[-getElem?_pos,go_sem,g1,g8,h,hz,w8,hn0,hmb]
  .apply Pe;simp[-getElem?_pos,go_sem,g1,g8,h,hz,w8,hn0,hmb]
 apply aj.seq (fr':=[(1,.int .u64 (x:Nat)),(2,.int .i64 (n:Nat)),(8,.sl 1 0 b.length 0)]) (H':=[some pG,some ob0])
 .apply Pe;simp[-getElem?_pos,go_sem,hC,ak]
 apply aj.andThen (P:=fun fr H=>∃ ob,Rw (.pb (b++leB n x)) n ob/\fr=OZ b x n n++[(31,.bool false)]/\H=[some pG,some ob])
 .apply aj.seq (fr':=OZ b x n 0) (H':=[some pG,some ob0])
  .apply Pe;simp[-getElem?_pos,go_sem,OZ]
  apply aj.block;refine aj.loop (σ:=Nat×AM.Obj) (fun s=>s.1<=n/\Rw (.pb (b++leB s.1 x)) s.1 s.2) (fun s=>OZ b x n s.1) (fun s=>[some pG,some s.2]) (fun s=>n-s.1) ?_ (0,ob0) ⟨by simp,by simpa[leB]using hw0⟩;rintro⟨i,ob⟩ ⟨hi,hw⟩;simp only at hi hw ⊢;by_cases hin:i=n
  .right
   subst hin;refine⟨⟨.exit 0,OZ b x i i++[(31,.bool false)],[some pG,some ob]⟩,⟨rfl,ob,hw,rfl,rfl⟩,by simp,?_⟩;apply Pe;simp[-getElem?_pos,go_sem,OZ]
  .left
   have hlt:i<8:=by omega
   have hiI:(i:Int)<(n:Int):=by omega
   have w1:IntKind.i64.wrap ((i:Int)+1)=((i+1:Nat):Int):=by rw[wrap_i64 (by omega) (by omega)];omega
   have w8:IntKind.i64.wrap (8*(i:Int))=((8*i:Nat):Int):=by rw[wrap_i64 (by omega) (by omega)];omega
   have hn0:¬ (((8*i:Nat):Int)<0):=by omega
   have hsh:=Ud (x:=x) hlt;have hlen:=kU i x;obtain⟨ob',hw',hA⟩:=YJ (H:=[some pG,some ob]) (o:=1) (src:=.ro 1 (.pb [UInt8.ofNat (x/256 ^ i%256)]) 0) rfl hw (.inl rfl) (by simp[hlen];omega);rw[ayq,<- OX]at hw';simp only[axR,hlen,axY,ax3]at hA;refine⟨(i+1,ob'),⟨by simp only;omega,hw'⟩,?_,by simp only;omega⟩;have hwb:=VJ (x/256 ^ i);have hbs:=fun H=>bs1 H (UInt8.ofNat (x/256 ^ i%256));generalize x/256 ^ i=z at *;generalize UInt8.ofNat (z % 256)=y at *;generalize 8 * i=i8 at *;apply Pe;simp[-getElem?_pos,go_sem,OZ,hiI,w1,w8,hn0,hmb,hsh,hwb,hbs,hA,upd];omega
 .rintro fr H ⟨ob,hw,rfl,rfl⟩;refine aj.of (o:=⟨.ret,[(6,.sl 1 0 (b.length+n) n),(7,.int .i64 0)],[some pG,some ob]⟩) ?_ ⟨rfl,1,n,ob,rfl,rfl,rfl,hw⟩;refine⟨0,?_⟩;simp[-getElem?_pos,go_sem,OZ,ak]
end
def YF{H:AM.Heap}{a:AV}{b:List UInt8}{x n:Nat}(h:Byt H a b)(hb:b.length<=90000000)(h1:1<=n)(h8:n<=8)(hx:x<256 ^ n) :
 ∃ ob,Rw (.pb (b++leB n x)) 0 ob/\evT X 26 [a,.int .u64 (x:Nat),.int .i64 (n:Nat)] H=some (.tup [.sl H.length 0 (b.length+n) 0,.int .i64 0],H++[some ob]):=by
 obtain⟨c,p,xl,hp,hc,hx'⟩:=sD (C:=X) (f:=26) (i:=0) rfl h (dX (i:=1) (a:=.int .u64 (x:Nat)) rfl rfl (dX (i:=2) (a:=.int .i64 (n:Nat)) rfl rfl (dR 3)));obtain⟨code,hcode,hr⟩:=ab2 c b x n hc hb h1 h8 hx;obtain⟨ob,q1,q2⟩:=Ev1.Kz (H:=H) (n:=b.length+n) (l:=b++leB n x) (rest:=[.int .i64 0]) (bC X) Try.func26 hcode hx' (by simp[aC,ids,hp.ids]) (by simp[dA]) rfl rfl rfl (by
  obtain⟨o,⟨he,o1,g,ob,q1,q2,q3,q4⟩,hrun⟩:=hr;exact⟨o,⟨he,o1,g,ob,by show some [aB o.fr 6,aB o.fr 7]=_;rw[q1,q2],q3,q4⟩,by rw[agh,coB hp];exact hrun⟩)
 exact⟨ob,q1,dI q2⟩
def pk(x:Int)(n:Nat):Nat:=(if x.tmod n<0 then x.tmod n+n else x.tmod n).toNat
def ab3{x:Int}{n:Nat}(h:0<n):-(n:Int)<x.tmod n/\x.tmod n<n:=by
 have hb:x.tmod n<n:=Int.tmod_lt_of_pos x (by omega);refine⟨?_,hb⟩;by_cases hx:0<=x
 .have:=Int.tmod_nonneg (n:Int) hx;omega
 .have h2:=Int.neg_tmod (-x) (n:Int);rw[Int.neg_neg]at h2;have h3:=Int.tmod_lt_of_pos (-x) (b:=(n:Int)) (by omega);omega
section
variable (x:Int)(n:Nat)
def VK(h:0<n)(hn:n<9223372036854775808):∃ code,Try.f30.body=some code /\
 Run X (evT X) 30 0 code [(0,.int .i64 x),(1,.int .i64 (n:Nat))] [] ⟨.ret,[(4,.int .i64 (pk x n:Nat))],[]⟩:=by
 refine⟨_,rfl,0,?_⟩;have hn0:¬ (n:Int)=0:=by omega
 have hn1:¬ n=0:=by omega
 have hbd:=ab3 (x:=x) h;unfold pk at *;generalize hq:x.tmod n=m at *;by_cases hm:m<0
 .rw [if_pos hm];have w:IntKind.i64.wrap (m+n)=(((m+n).toNat:Nat):Int):=by rw[wrap_i64 (by omega) (by omega)];omega
  generalize (m + n).toNat=z at *;simp[-getElem?_pos,go_sem,hn0,hn1,hq,hm,w]
 .rw [if_neg hm];have w:((m.toNat:Nat):Int)=m:=by omega
  rw[w];simp[-getElem?_pos,go_sem,hn0,hn1,hq,hm]
end
def aa7{H:AM.Heap}{x:Int}{n:Nat}(h:0<n)(hn:n<9223372036854775808):evT X 30 [.int .i64 x,.int .i64 (n:Nat)] H=some (.int .i64 (pk x n:Nat),H):=by
 obtain⟨code,hcode,hr⟩:=VK x n h hn;exact dI (Ev1.rU (l:=[.int .i64 (pk x n:Nat)]) (bC X) Try.func30 hcode (dX (i:=0) rfl rfl (dX (i:=1) rfl rfl (dR 2))) rfl (by simp[dA]) rfl rfl rfl ⟨_,⟨rfl,rfl⟩,hr⟩)
def je:List Int->List Int->List Int×Int
 | n,[]=>(n,0)
 | n,x::r=>if 0<=x/\x<=15 then je (n.set x.toNat (IntKind.i64.wrap (n.getD x.toNat 0+1))) r else(n,2)
def z16:List Int:=[0,0,0,0,0,0,0,0,0,0,0,0,0,0,0,0]
def bQ(l:List Int):List Int×Int:=if 320<(l.length:Int)then(z16,3)else je z16 l
def bx(n:List Int):Option AM.Obj:=some { p:=.pi .i64 n,g:=0,cap:=some 16,z:=1,row:=false,ids:=false,tg:=0 }
def Ag:∀ (l n:List Int),(je n l).1.length=n.length
 | [],n=>rfl
 | x::r,n=>by
  simp only[je];split
  .rw [Ag r];simp
  .rfl
def rG(c:Nat)(l n todo:List Int):AM.Out :=
 if(je n todo).2=0 then⟨.exit 0,[(2,.ptr 0 0 0 0),(4,.ptr 1 0 0 0),(11,.ro c (.pi .i64 l) 1),(12,.int .i64 l.length),(13,.int .i64 l.length),(14,.bool false)],[bx z16,bx (je n todo).1]⟩
 else⟨.ret,[(2,.ptr 0 0 0 0),(3,.int .i64 (je n todo).2)],[bx (je n todo).1,bx (je n todo).1]⟩
def O1(T:Cf)(c:Nat)(l:List Int)(h63:l.length<9223372036854775808):∃ code,Try.f74.body=some code /\
 Run X T 74 0 code [(0,.ro c (.pi .i64 l) 1)] [] ⟨.ret,[(2,.ptr 0 0 0 0),(3,.int .i64 (bQ l).2)],[bx (bQ l).1,bx (bQ l).1]⟩:=by
 refine⟨_,rfl,?_⟩;by_cases hl:320<(l.length:Int)
 .simp only[bQ,hl,if_true];apply Run.seq
  ·(refine⟨0,?_⟩;conv=>lhs;simp[-getElem?_pos,go_sem])
  apply Run.seq
  ·(refine⟨0,?_⟩;conv=>lhs;simp[-getElem?_pos,go_sem])
  apply Run.bK
  .apply Run.seq
   ·(refine⟨0,?_⟩;conv=>lhs;simp[-getElem?_pos,go_sem,hl])
   .refine Run.cond (d:=true) rfl ?_;apply Run.seq
    ·(refine⟨0,?_⟩;conv=>lhs;simp[-getElem?_pos,go_sem])
    .exact ⟨0,rfl⟩
  .simp
 .simp only[bQ,hl,if_false];apply Run.seq
  ·(refine⟨0,?_⟩;conv=>lhs;simp[-getElem?_pos,go_sem])
  apply Run.seq
  ·(refine⟨0,?_⟩;conv=>lhs;simp[-getElem?_pos,go_sem])
  apply Run.seq
  .apply Run.seq
   ·(refine⟨0,?_⟩;conv=>lhs;simp[-getElem?_pos,go_sem,hl])
   .exact Run.cond (d:=false) rfl ⟨0,rfl⟩
  -- the loop
  apply Run.seq' (o:=jT 0 (rG c l z16 l))
  .apply Run.seq
   ·(refine⟨0,?_⟩;conv=>lhs;simp[-getElem?_pos,go_sem])
   .apply Run.block';refine Run.mY (σ:=List Int×List Int×List Int) (fun s=>s.1.length=16/\s.2.1++s.2.2=l) (fun s=>[(2,.ptr 0 0 0 0),(4,.ptr 1 0 0 0),(11,.ro c (.pi .i64 l) 1),(12,.int .i64 l.length),(13,.int .i64 (s.2.1.length:Nat))])
     (fun s=>[bx z16,bx s.1]) (fun s=>rG c l s.1 s.2.2) (fun s=>s.2.2.length) ?_ (z16,[],l) ⟨rfl,rfl⟩
    rintro⟨n,done,todo⟩ ⟨hn,hd⟩;simp only at hn hd ⊢;cases todo with
    | nil=>
     right
     have hlen:done.length=l.length:=by rw[<- hd];simp
     refine⟨?_,by simp[rG,je]⟩;simp only[rG,je,if_true];apply Run.seq
     ·(refine⟨0,?_⟩;conv=>lhs;simp[-getElem?_pos,go_sem,hlen])
     .apply Run.bK
      .exact Run.cond (d:=false) rfl ⟨0,rfl⟩
      .simp
    | cons x todo=>
     have hlt:done.length<l.length:=by rw[<- hd];simp
     have hget:l[done.length]?=some x:=by rw[<- hd];simp
     by_cases hx:0<=x/\x<=15
     .left
      obtain⟨v,hv⟩:∃ v,n[x.toNat]?=some v:=⟨n[x.toNat]'(by omega),axI (by omega)⟩;refine⟨(n.set x.toNat (IntKind.i64.wrap (v+1)),done++[x],todo),⟨by simpa using hn,by simpa using hd⟩,?_,?_,by simp⟩
      .have rW:(done.length:Int)<(l.length:Int):=by omega
       have hx1:¬ x<0:=by omega
       have hx2:¬ 15<x:=by omega
       have hx3:x<16:=by omega
       have e:IntKind.i64.wrap ((done.length:Int)+1)=(done.length:Int)+1:=wrap_i64 (by omega) (by omega);apply Run.seq
       ·(refine⟨0,?_⟩;conv=>lhs;simp[-getElem?_pos,go_sem,rW])
       apply Run.seq
       .exact Run.cond (d:=true) rfl ⟨0,rfl⟩
       apply Run.seq
       .apply Run.block
        .apply Run.seq
         ·(refine⟨0,?_⟩;conv=>lhs;simp[-getElem?_pos,go_sem,hget,hlt])
         apply Run.seq
         .apply Run.seq
          ·(refine⟨0,?_⟩;conv=>lhs;simp[-getElem?_pos,go_sem,hx1,hx2])
          .exact Run.cond (d:=false) rfl ⟨0,rfl⟩
         ·(refine⟨0,?_⟩;conv=>lhs;simp[-getElem?_pos,go_sem,hx.1,hx3,hv,bx,hn])
        .simp
       .apply Pe;simp[-getElem?_pos,go_sem,e,bx,axQ,hv]
      .simp [rG,je,hx,axQ,hv]
     .right
      refine⟨?_,by simp[rG,je,hx]⟩;have rW:(done.length:Int)<(l.length:Int):=by omega
      simp only[rG,je,hx,if_false];apply Run.seq
      ·(refine⟨0,?_⟩;conv=>lhs;simp[-getElem?_pos,go_sem,rW])
      apply Run.seq
      .exact Run.cond (d:=true) rfl ⟨0,rfl⟩
      apply Run.bK
      .apply Run.block
       .apply Run.seq
        ·(refine⟨0,?_⟩;conv=>lhs;simp[-getElem?_pos,go_sem,hget,hlt])
        apply Run.bK
        .refine Run.seq (fr':=[(2,.ptr 0 0 0 0),(4,.ptr 1 0 0 0),(6,.int .i64 x),(11,.ro c (.pi .i64 l) 1),(12,.int .i64 l.length),(13,.int .i64 done.length),(22,.bool true)]) (H':=[bx z16,bx n]) ⟨0,?_⟩ ?_
         .by_cases hx1:x<0
          .simp [-getElem?_pos,go_sem,hx1]
          .have hx2:15<x:=by omega
           simp[-getElem?_pos,go_sem,hx1,hx2]
         .refine Run.cond (d:=true) rfl ?_;apply Run.seq
          ·(refine⟨0,?_⟩;conv=>lhs;simp[-getElem?_pos,go_sem,bx,z16,hn])
          .exact ⟨0,rfl⟩
        .simp
       .simp
      .simp
  .intro fr' H' h;unfold rG at h;split at h
   .rename_i he;simp only[jT,if_true,Out.mk.injEq,true_and]at h;obtain⟨rfl,rfl⟩:=h;rw[he];have hn:=Ag l z16;generalize (je z16 l).1=n at hn ⊢;have hn':n.length=16:=hn;apply Run.seq
    ·(refine⟨0,?_⟩;conv=>lhs;simp[-getElem?_pos,go_sem,bx,z16,hn'])
    .exact ⟨0,rfl⟩
   .simp [jT]at h
  .intro h;unfold rG at h ⊢;split at h
   .simp [jT]at h
   .rename_i he;rw[if_neg he];rfl
def kN(l:List Int):(bQ l).1.length=16:=by
 unfold bQ;split
 .rfl
 .rw [Ag];rfl
def JQ:∀ (l n:List Int),(je n l).2=0->∀ x∈l,0<=x/\x<=15
 | [],n,_=>by simp
 | x::r,n,h=>by
  simp only[je]at h;split at h
  .rename_i hx;intro y hy;rcases ax2.1 hy with rfl|hy
   .exact hx
   .exact JQ r _ h y hy
  .simp at h
def Ro{l:List Int}(h:(bQ l).2=0):l.length<=320/\∀ x∈l,0<=x/\x<=15:=by
 unfold bQ at h;split at h
 .simp at h
 .rename_i hl;exact⟨by omega,JQ l z16 h⟩
def cnt(l:List Int):AV:=.tup [.agg (.pi .i64 (bQ l).1),.int .i64 (bQ l).2]
def VL(c:Nat)(l:List Int)(h63:l.length<9223372036854775808):Ev1 X 74 [.ro c (.pi .i64 l) 1] [] (cnt l,[]):=by
 obtain⟨code,hb,hr⟩:=O1 (fun _ _ _=>.none) c l h63;have hn:=kN l;exact Ev1.plain (l:=[.agg (.pi .i64 (bQ l).1),.int .i64 (bQ l).2]) Below.none Try.func74 hb rfl rfl (by simp[dA]) hr (.inr rfl) (by
  have:Try.f74.results.toList=[.cell 2 112,.tmp 3]:=rfl;rw[this];simp[-getElem?_pos,ayf,aT,wH,aB,live,bx,Ir,hn,xE]) rfl rfl
def S1(f:Nat)(xs:List AV):Option (AV×AM.Heap) :=
 match f,xs with
 | 74,[.ro _ (.pi .i64 l) 1]=>if l.length<9223372036854775808 then some (cnt l,[])else .none
 | _,_=>.none
def ac6:∀ f xs v N,S1 f xs=some (v,N)->Ev1 X f xs [] (v,N):=by
 intro f xs v N h;unfold S1 at h;split at h
 .split at h
  .rename_i hl;simp only[axH,axJ]at h;obtain⟨rfl,rfl⟩:=h;exact VL _ _ hl
  .cases h
 .cases h
noncomputable def T1:Cf:=AP X S1
def ZT:Below X T1:=xC ac6
def VN{H:AM.Heap}{a:AV}{l:List Int}(h:fJ H a=some (.pi .i64 l))(hl:l.length<9223372036854775808):T1 74 [a] H=some (cnt l,H):=by
 obtain⟨c,x,hx⟩:=iy (C:=X) (f:=74) (i:=0) rfl h (dR 1);unfold T1 AP;rw[hx];simp[S1,hl,aC,ids,cnt,xB,rZ,tags,aW,dL,lI,ren,bU]
def aiZ(c t:Nat)(l:List Int)(H:AM.Heap)(hl:l.length<9223372036854775808):T1 74 [.ro c (.pi .i64 l) t] H=some (cnt l,H):=VN rfl hl
def IL(n:List Int):Nat->Nat->Int->Int
 | 0,_,s=>s
 | k+1,i,s=>IL n k (i+1) (IntKind.i64.wrap (s+IntKind.i64.wrap (n.getD i 0*2 ^ (min (15-i) 64))))
def kE(l:List Int):Bool×Int :=
 if(bQ l).2=0 then
  if 32768<IL (bQ l).1 15 1 0 then(false,7)else(IL (bQ l).1 15 1 0==32768,0)
 else(false,(bQ l).2)
def Rq(c:Nat)(l:List Int)(h63:l.length<9223372036854775808):∃ code,Try.f73.body=some code /\
 Run X T1 73 0 code [(0,.ro c (.pi .i64 l) 1)] [] ⟨.ret,[(2,.bool (kE l).1),(3,.int .i64 (kE l).2)],[bx (bQ l).1]⟩:=by
 refine⟨_,rfl,?_⟩;have hT:=fun H=>aiZ c 1 l H h63;have hn:=kN l;unfold kE;unfold cnt at hT;generalize (bQ l).1=n at hT hn ⊢;generalize (bQ l).2=e at hT ⊢;apply Run.seq
 ·(refine⟨0,?_⟩;conv=>lhs;simp[-getElem?_pos,go_sem])
 apply Run.seq
 ·(refine⟨0,?_⟩;conv=>lhs;simp[-getElem?_pos,go_sem,hT,hn])
 by_cases he:e=0
 .subst he;simp only[if_true];apply Run.seq
  .apply Run.seq
   ·(refine⟨0,?_⟩;conv=>lhs;simp[-getElem?_pos,go_sem])
   .exact Run.cond (d:=false) rfl ⟨0,rfl⟩
  apply Run.seq
  ·(refine⟨0,?_⟩;conv=>lhs;simp[-getElem?_pos,go_sem])
  apply Run.seq (fr':=[(4,.ptr 0 0 0 0),(5,.int .i64 (IL n 15 1 0)),(6,.int .i64 16),(16,.bool false)]) (H':=[bx n])
  .apply Run.seq (fr':=[(4,.ptr 0 0 0 0),(5,.int .i64 0),(6,.int .i64 (1:Nat))]) (H':=[bx n])
   .apply Pe;simp[-getElem?_pos,go_sem,bx]
   .apply Run.iM;refine Run.mY (σ:=Nat×Nat×Int) (fun s=>s.1+s.2.1=16/\1<=s.2.1) (fun s=>[(4,.ptr 0 0 0 0),(5,.int .i64 s.2.2),(6,.int .i64 (s.2.1:Nat))]) (fun _=>[bx n])
     (fun s=>⟨.exit 0,[(4,.ptr 0 0 0 0),(5,.int .i64 (IL n s.1 s.2.1 s.2.2)),(6,.int .i64 16),(16,.bool false)],[bx n]⟩) (fun s=>s.1) ?_ (15,1,0) ⟨rfl,axO 1⟩
    rintro⟨k,i,s⟩ ⟨hk,hi⟩;simp only at hk hi ⊢;cases k with
    | zero=>
     right
     have:i=16:=by omega
     subst this;refine⟨?_,by simp⟩;apply Run.bK
     .apply Pe;simp[-getElem?_pos,go_sem,IL]
     .simp
    | succ k=>
     left
     refine⟨(k,i+1,IntKind.i64.wrap (s+IntKind.i64.wrap (n.getD i 0*2 ^ (min (15-i) 64)))),⟨show k+(i+1)=16 by omega,show 1<=i+1 by omega⟩,?_,rfl,by simp⟩;obtain⟨v,hv⟩:∃ v,n[i]?=some v:=⟨n[i]'(by omega),axI (by omega)⟩;have abM:(i:Int)<=15:=by omega
     have Vs:i<16:=by omega
     have aeY:(i:Int)<16:=by omega
     have e1:IntKind.i64.wrap (15-(i:Int))=15-(i:Int):=wrap_i64 (by omega) (by omega);have e2:(15-(i:Int)).toNat=15-i:=by omega
     have e3:¬ (15-(i:Int)<0):=by omega
     have e4:IntKind.i64.wrap ((i:Int)+1)=(i:Int)+1:=wrap_i64 (by omega) (by omega);apply Run.seq
     ·(refine⟨0,?_⟩;conv=>lhs;simp[-getElem?_pos,go_sem,abM])
     apply Run.seq
     .apply Run.block
      ·(refine⟨0,?_⟩;conv=>lhs;simp[-getElem?_pos,go_sem,bx,hn,Vs,aeY,hv,e1,e2,e3,IntKind.bits])
      .simp
     .apply Pe;simp[-getElem?_pos,go_sem,e4,axQ,hv,bx]
  .by_cases hs:32768<IL n 15 1 0
   .simp only[hs,if_true];apply Run.bK
    .apply Run.seq
     ·(refine⟨0,?_⟩;conv=>lhs;simp[-getElem?_pos,go_sem,hs])
     .refine Run.cond (d:=true) rfl ?_;apply Run.seq
      ·(refine⟨0,?_⟩;conv=>lhs;simp[-getElem?_pos,go_sem])
      .exact ⟨0,rfl⟩
    .simp
   .simp only[hs,if_false];apply Run.seq
    .apply Run.seq
     ·(refine⟨0,?_⟩;conv=>lhs;simp[-getElem?_pos,go_sem,hs])
     .exact Run.cond (d:=false) rfl ⟨0,rfl⟩
    apply Run.seq
    ·(refine⟨0,?_⟩;conv=>lhs;simp[-getElem?_pos,go_sem])
    .exact ⟨0,rfl⟩
 .simp only[he,if_false];have hb:(e != 0)=true:=by simpa using he
  apply Run.bK
  .apply Run.seq
   ·(refine⟨0,?_⟩;conv=>lhs;simp[-getElem?_pos,go_sem,hb])
   .refine Run.cond (d:=true) rfl ?_;apply Run.seq
    ·(refine⟨0,?_⟩;conv=>lhs;simp[-getElem?_pos,go_sem,bx])
    .exact ⟨0,rfl⟩
  .simp
def oL(n:List Int):Option AM.Obj:=some { p:=.pi .i64 n,g:=0,cap:=some 17,z:=1,row:=false,ids:=false,tg:=0 }
def z17:List Int:=[0,0,0,0,0,0,0,0,0,0,0,0,0,0,0,0,0]
def tC(n:List Int):Nat->Nat->List Int->List Int
 | 0,_,f=>f
 | k+1,i,f=>tC n k (i+1) (f.set (i+1) (IntKind.i64.wrap (IntKind.i64.wrap (f.getD i 0+n.getD i 0)*2)))
def eY(n:List Int):List Int:=tC (n.set 0 0) 15 1 z17
def mD(n:List Int):∀ (k i:Nat) (f:List Int),(tC n k i f).length=f.length
 | 0,_,_=>rfl
 | k+1,i,f=>by rw[tC,mD n k];simp
def O4(T:Cf)(n0:List Int)(hn0:n0.length=16):∃ code,Try.f75.body=some code /\
 Run X T 75 0 code [(0,.agg (.pi .i64 n0))] [] ⟨.ret,[(2,.ptr 1 0 0 0)],[bx (n0.set 0 0),oL (eY n0),oL (eY n0)]⟩:=by
 refine⟨_,rfl,?_⟩;unfold eY;have hn:(n0.set 0 0).length=16:=by simpa using hn0
 have h0:0<n0.length:=by omega
 apply Run.seq
 ·(refine⟨0,?_⟩;conv=>lhs;simp[-getElem?_pos,go_sem,hn0])
 apply Run.seq
 ·(refine⟨0,?_⟩;conv=>lhs;simp[-getElem?_pos,go_sem])
 apply Run.seq (fr':=[(1,.ptr 0 0 0 0),(2,.ptr 1 0 0 0),(3,.ptr 2 0 0 0)]) (H':=[bx (n0.set 0 0),oL z17,oL z17])
 .apply Pe;simp[-getElem?_pos,go_sem,h0,bx,oL,z17,hn0]
 generalize n0.set 0 0=n at hn ⊢;have hlen:=mD n 15 1 z17;apply Run.seq (fr':=[(1,.ptr 0 0 0 0),(2,.ptr 1 0 0 0),(3,.ptr 2 0 0 0),(4,.int .i64 16),(7,.bool false)]) (H':=[bx n,oL z17,oL (tC n 15 1 z17)])
 .apply Run.seq (fr':=[(1,.ptr 0 0 0 0),(2,.ptr 1 0 0 0),(3,.ptr 2 0 0 0),(4,.int .i64 (1:Nat))]) (H':=[bx n,oL z17,oL z17])
  .apply Pe;simp[-getElem?_pos,go_sem]
  .apply Run.iM;refine Run.mY (σ:=Nat×Nat×List Int) (fun s=>s.1+s.2.1=16/\1<=s.2.1/\s.2.2.length=17) (fun s=>[(1,.ptr 0 0 0 0),(2,.ptr 1 0 0 0),(3,.ptr 2 0 0 0),(4,.int .i64 (s.2.1:Nat))]) (fun s=>[bx n,oL z17,oL s.2.2])
    (fun s=>⟨.exit 0,[(1,.ptr 0 0 0 0),(2,.ptr 1 0 0 0),(3,.ptr 2 0 0 0),(4,.int .i64 16),(7,.bool false)],[bx n,oL z17,oL (tC n s.1 s.2.1 s.2.2)]⟩) (fun s=>s.1) ?_ (15,1,z17) ⟨rfl,axO 1,rfl⟩
   rintro⟨k,i,f⟩ ⟨hk,hi,hf⟩;simp only at hk hi hf ⊢;cases k with
   | zero=>
    right
    have:i=16:=by omega
    subst this;refine⟨?_,by simp⟩;apply Run.bK
    .apply Pe;simp[-getElem?_pos,go_sem,tC]
    .simp
   | succ k=>
    left
    refine⟨(k,i+1,f.set (i+1) (IntKind.i64.wrap (IntKind.i64.wrap (f.getD i 0+n.getD i 0)*2))),⟨show k+(i+1)=16 by omega,show 1<=i+1 by omega,by simpa using hf⟩,?_,rfl,by simp⟩;obtain⟨v,hv⟩:∃ v,n[i]?=some v:=⟨n[i]'(by omega),axI (by omega)⟩;obtain⟨u,hu⟩:∃ v,f[i]?=some v:=⟨f[i]'(by omega),axI (by omega)⟩;have abM:(i:Int)<=15:=by omega
    have Vs:i<16:=by omega
    have aeY:(i:Int)<16:=by omega
    have asF:(i:Int)<17:=by omega
    have asG:i+1<17:=by omega
    have abN:i<17:=by omega
    have hiI:(i:Int)+1<17:=by omega
    have hiJ:(0:Int)<=(i:Int)+1:=by omega
    have e4:IntKind.i64.wrap ((i:Int)+1)=(i:Int)+1:=wrap_i64 (by omega) (by omega);have e5:((i:Int)+1).toNat=i+1:=by omega
    apply Run.seq
    ·(refine⟨0,?_⟩;conv=>lhs;simp[-getElem?_pos,go_sem,abM])
    apply Run.seq
    .apply Run.block
     ·(refine⟨0,?_⟩;conv=>lhs;simp[-getElem?_pos,go_sem,bx,oL,hn,hf,Vs,aeY,asF,asG,abN,hiI,hiJ,hv,hu,e4,e5,IntKind.bits])
     .simp
    .apply Pe;simp[-getElem?_pos,go_sem,e4,axQ,hv,hu,bx,oL]
 generalize tC n 15 1 z17=F at hlen ⊢;have hF:F.length=17:=hlen;apply Run.seq
 ·(refine⟨0,?_⟩;conv=>lhs;simp[-getElem?_pos,go_sem,bx,oL,z17,hF])
 .exact ⟨0,rfl⟩
def ckV(l:List Int):AV:=.tup [.bool (kE l).1,.int .i64 (kE l).2]
def ZU(c:Nat)(l:List Int)(h63:l.length<9223372036854775808):Ev1 X 73 [.ro c (.pi .i64 l) 1] [] (ckV l,[]):=by
 obtain⟨code,hb,hr⟩:=Rq c l h63;exact Ev1.plain (l:=[.bool (kE l).1,.int .i64 (kE l).2]) ZT Try.func73 hb rfl rfl (by simp[dA]) hr (.inr rfl) rfl rfl rfl
def VO(n:List Int)(hn:n.length=16):Ev1 X 75 [.agg (.pi .i64 n)] [] (.agg (.pi .i64 (eY n)),[]):=by
 obtain⟨code,hb,hr⟩:=O4 (fun _ _ _=>.none) n hn;have hF:(eY n).length=17:=mD _ _ _ _;exact Ev1.plain (l:=[.agg (.pi .i64 (eY n))]) Below.none Try.func75 hb rfl rfl (by simp[dA]) hr (.inr rfl) (by
  have:Try.f75.results.toList=[.cell 2 115]:=rfl;rw[this];simp[-getElem?_pos,ayf,axX,aT,wH,aB,live,bx,oL,Ir,hF,xE]) rfl rfl
def S2(f:Nat)(xs:List AV):Option (AV×AM.Heap) :=
 match f,xs with
 | 73,[.ro _ (.pi .i64 l) 1]=>if l.length<9223372036854775808 then some (ckV l,[])else .none
 | 75,[.agg (.pi .i64 n)]=>if n.length=16 then some (.agg (.pi .i64 (eY n)),[])else .none
 | f,xs=>S1 f xs
def ai0:∀ f xs v N,S2 f xs=some (v,N)->Ev1 X f xs [] (v,N):=by
 intro f xs v N h;unfold S2 at h;split at h
 .split at h
  .rename_i hl;simp only[axH,axJ]at h;obtain⟨rfl,rfl⟩:=h;exact ZU _ _ hl
  .cases h
 .split at h
  .rename_i hl;simp only[axH,axJ]at h;obtain⟨rfl,rfl⟩:=h;exact VO _ hl
  .cases h
 .exact ac6 _ _ _ _ h
noncomputable def T2:Cf:=AP X S2
def Ho:Below X T2:=xC ai0
def I9{H:AM.Heap}{a:AV}{l:List Int}(h:fJ H a=some (.pi .i64 l))(hl:l.length<9223372036854775808):T2 74 [a] H=some (cnt l,H):=by
 obtain⟨c,x,hx⟩:=iy (C:=X) (f:=74) (i:=0) rfl h (dR 1);unfold T2 AP;rw[hx];simp[S1,S2,hl,aC,ids,cnt,xB,rZ,tags,aW,dL,lI,ren,bU]
def OB{H:AM.Heap}{a:AV}{l:List Int}(h:fJ H a=some (.pi .i64 l))(hl:l.length<9223372036854775808):T2 73 [a] H=some (ckV l,H):=by
 obtain⟨c,x,hx⟩:=iy (C:=X) (f:=73) (i:=0) rfl h (dR 1);unfold T2 AP;rw[hx];simp[S2,hl,aC,ids,ckV,xB,rZ,tags,aW,dL,lI,ren,bU]
def Ja{H:AM.Heap}{n:List Int}(hn:n.length=16):T2 75 [.agg (.pi .i64 n)] H=some (.agg (.pi .i64 (eY n)),H):=by
 unfold T2 AP;rw[dX (C:=X) (f:=75) (i:=0) rfl rfl (dR 1)];simp[S2,hn,aC,ids,xB,rZ,tags,aW,dL,lI,ren,bU]
def Ig:Option AM.Obj:=some { p:=.pi .i64 [],g:=0,cap:=.none,z:=0,row:=true,ids:=false,tg:=0 }
def mF(k:Nat)(l:List Int):Option AM.Obj:=some { p:=.pi .i64 l,g:=0,cap:=some k,z:=1,row:=true,ids:=false,tg:=0 }
def qV:List Int->List Int->List Int
 | _,[]=>[]
 | next,x::r=>if 0<x then next.getD x.toNat 0::qV (next.set x.toNat (IntKind.i64.wrap (next.getD x.toNat 0+1))) r else -1::qV next r
def yj:List Int->List Int->List Int
 | next,[]=>next
 | next,x::r=>if 0<x then yj (next.set x.toNat (IntKind.i64.wrap (next.getD x.toNat 0+1))) r else yj next r
def Ah:∀ (next l:List Int),(qV next l).length=l.length
 | _,[]=>rfl
 | next,x::r=>by
  simp only[qV];split<;>simp[Ah _ r]
def pW(l:List Int):List Int:=qV (eY (bQ l).1) l
def set_mid(pre:List Int)(v w:Int)(n k:Nat)(h:k=pre.length):(pre++List.replicate (n+1) v).set k w=(pre++[w])++List.replicate n v:=by
 subst h;rw[List.set_append_right _ _ (axO _),azI,List.replicate_succ,List.set_cons_zero];simp
def Ih(c:Nat)(l:List Int)(i:Nat):AM.Frame:=[(8,.ptr 2 0 0 0),(9,.sl 3 0 l.length 0),(30,.ro c (.pi .i64 l) 1),(31,.int .i64 l.length),(32,.int .i64 (i:Nat))]
def Rt(c:Nat)(l:List Int)(he:(kE l).2=0):∃ code,Try.f54.body=some code /\
 Run X T2 54 0 code [(0,.ro c (.pi .i64 l) 1)] [] ⟨.ret,[(2,.sl 3 0 l.length 0),(3,.int .i64 0)],[Ig,bx (bQ l).1,oL (yj (eY (bQ l).1) l),mF l.length (pW l)]⟩:=by
 have hce:(bQ l).2=0:=by
  unfold kE at he;split at he
  .assumption
  .rename_i h;exact absurd he h
 obtain⟨axF,hall⟩:=Ro hce;have h63:l.length<9223372036854775808:=by omega
 have hn:=kN l;have hm1:(l.length:Int)<=9223372036854775807:=by omega
 have hm2:8*(l.length:Int)<=140737488355328:=by omega
 have hT:=fun H=>OB (H:=H) (a:=.ro c (.pi .i64 l) 1) rfl h63;have hC:=fun H=>I9 (H:=H) (a:=.ro c (.pi .i64 l) 1) rfl h63;have hF:=fun H=>Ja (H:=H) hn;unfold ckV at hT;unfold cnt at hC;unfold pW;rw[hce]at hC;have hf:(eY (bQ l).1).length=17:=mD _ _ _ _;generalize (bQ l).1=n at hn hC hF hf ⊢;generalize eY n=O5 at hF hf ⊢;refine⟨_,rfl,?_⟩;apply Run.seq
 ·(refine⟨0,?_⟩;conv=>lhs;simp[-getElem?_pos,go_sem,rowOf,dh])
 apply Run.seq
 ·(refine⟨0,?_⟩;conv=>lhs;simp[-getElem?_pos,go_sem,hT,he])
 apply Run.seq
 ·(refine⟨0,?_⟩;conv=>lhs;simp[-getElem?_pos,go_sem,hC,hn])
 apply Run.seq
 ·(refine⟨0,?_⟩;conv=>lhs;simp[-getElem?_pos,go_sem,hF,hn,hf])
 apply Run.seq (fr':=[(0,.ro c (.pi .i64 l) 1),(8,.ptr 2 0 0 0),(9,.sl 3 0 l.length 0)]) (H':=[Ig,bx n,oL O5,mF l.length (List.replicate l.length 0)])
 .apply Pe;simp[-getElem?_pos,go_sem,fP,kF,eF,scalars,aC,ids,aW,rowOf,hm1,hm2,Ig,bx,oL,mF]
 apply Run.seq (fr':=Ih c l l.length++[(33,.bool false)]) (H':=[Ig,bx n,oL (yj O5 l),mF l.length (qV O5 l)])
 .apply Run.seq (fr':=Ih c l 0) (H':=[Ig,bx n,oL O5,mF l.length ([]++List.replicate l.length 0)])
  .apply Pe;simp[-getElem?_pos,go_sem,Ih]
  .apply Run.iM;refine Run.mY (σ:=List Int×List Int×List Int×List Int) (fun s=>s.1.length=17/\s.2.1.length=s.2.2.1.length/\s.2.2.1++s.2.2.2=l) (fun s=>Ih c l s.2.2.1.length)
    (fun s=>[Ig,bx n,oL s.1,mF l.length (s.2.1++List.replicate s.2.2.2.length 0)])
    (fun s=>⟨.exit 0,Ih c l l.length++[(33,.bool false)],[Ig,bx n,oL (yj s.1 s.2.2.2),mF l.length (s.2.1++qV s.1 s.2.2.2)]⟩) (fun s=>s.2.2.2.length) ?_ (O5,[],[],l) ⟨hf,rfl,rfl⟩
   rintro⟨next,pre,done,todo⟩ ⟨hnx,hpre,hd⟩;simp only at hnx hpre hd ⊢;cases todo with
   | nil=>
    right
    have hlen:done.length=l.length:=by rw[<- hd];simp
    refine⟨?_,by simp⟩;simp only[qV,yj,ax1];apply Run.seq
    ·(refine⟨0,?_⟩;conv=>lhs;simp[-getElem?_pos,go_sem,hlen,Ih])
    .apply Run.bK
     .exact Run.cond (d:=false) rfl ⟨0,rfl⟩
     .simp
   | cons x todo=>
    left
    have hlt:done.length<l.length:=by rw[<- hd];simp
    have hget:l[done.length]?=some x:=by rw[<- hd];simp
    have hx:=hall x (by rw[<- hd];simp);have rW:(done.length:Int)<(l.length:Int):=by omega
    have e:IntKind.i64.wrap ((done.length:Int)+1)=(done.length:Int)+1:=wrap_i64 (by omega) (by omega);have hlp:done.length<(pre++List.replicate (todo.length+1) (0:Int)).length:=by simp;omega
    have hset:∀ w,(pre++List.replicate (todo.length+1) 0).set done.length w=(pre++[w])++List.replicate todo.length 0:=fun w=>set_mid pre 0 w todo.length done.length hpre.symm;generalize hP:pre++List.replicate (todo.length+1) (0:Int)=P at hlp hset;by_cases hx0:0<x
    .obtain ⟨v,hv⟩:∃ v,next[x.toNat]?=some v:=⟨next[x.toNat]'(by omega),axI (by omega)⟩
     have asH:x<17:=by omega
     have asI:x.toNat<17:=by omega
     refine⟨(next.set x.toNat (IntKind.i64.wrap (v+1)),pre++[v],done++[x],todo),⟨by simpa using hnx,by simpa using hpre,by simpa using hd⟩,?_,?_,by simp⟩
     .apply Run.seq
      ·(refine⟨0,?_⟩;conv=>lhs;simp[-getElem?_pos,go_sem,rW,Ih])
      apply Run.seq
      .exact Run.cond (d:=true) rfl ⟨0,rfl⟩
      apply Run.seq
      .apply Run.block
       ·(refine⟨0,?_⟩;conv=>lhs;simp[-getElem?_pos,go_sem,hget,hlt,Ig,bx,oL,mF,hx0,hx.1,asH,asI,hnx,hv,hlp])
       .simp
      .apply Pe;simp[-getElem?_pos,go_sem,e,Ih,Ig,bx,oL,mF,hset]
     .simp [qV,yj,hx0,axQ,hv]
    .refine ⟨(next,pre++[-1],done++[x],todo),⟨hnx,by simpa using hpre,by simpa using hd⟩,?_,?_,by simp⟩
     .apply Run.seq
      ·(refine⟨0,?_⟩;conv=>lhs;simp[-getElem?_pos,go_sem,rW,Ih])
      apply Run.seq
      .exact Run.cond (d:=true) rfl ⟨0,rfl⟩
      apply Run.seq
      .apply Run.block
       ·(refine⟨0,?_⟩;conv=>lhs;simp[-getElem?_pos,go_sem,hget,hlt,Ig,bx,oL,mF,hx0,hlp])
       .simp
      .apply Pe;simp[-getElem?_pos,go_sem,e,Ih,Ig,bx,oL,mF,hset]
     .simp [qV,yj,hx0]
 apply Run.seq
 ·(refine⟨0,?_⟩;conv=>lhs;simp[-getElem?_pos,go_sem,Ih])
 .exact ⟨0,rfl⟩
def zq:List Int->Int->Int×Int
 | [],s=>(s,0)
 | x::r,s=>if 0<=x/\x<=15 then zq r (if 0<x then IntKind.i64.wrap (s+IntKind.i64.wrap (2 ^ (min (15-x).toNat 64)))else s)else(s,2)
def iQ(l:List Int):Bool×Int :=
 if 320<(l.length:Int)then(false,3)else
 if(zq l 0).2=0 then(if 32768<(zq l 0).1 then(false,7)else((zq l 0).1==32768,0))else(false,2)
def Ue(n nx la:Int):Int:=if 0<la then IntKind.i64.wrap (IntKind.i64.wrap (nx+1)*2 ^ (min (IntKind.u64.wrap (IntKind.i64.wrap (n-la))).toNat 64))else nx
def rIn(n:Int):List Int->Nat->Int->Int->List Int->Int×Int×List Int
 | [],_,nx,la,o=>(nx,la,o)
 | x::r,i,nx,la,o=>if x=n then rIn n r (i+1) (Ue n nx la) n (o.set i (Ue n nx la))else rIn n r (i+1) nx la o
def Ru(l:List Int):Nat->Nat->Int->Int->List Int->Int×Int×List Int
 | 0,_,nx,la,o=>(nx,la,o)
 | k+1,n,nx,la,o=>Ru l k (n+1) (rIn n l 0 nx la o).1 (rIn n l 0 nx la o).2.1 (rIn n l 0 nx la o).2.2
def VP:List Int->Nat->List Int->List Int
 | [],_,o=>o
 | x::r,i,o=>VP r (i+1) (if x=0 then o.set i (-1)else o)
def iI(l:List Int):List Int:=VP l 0 (Ru l 15 1 0 0 (List.replicate l.length 0)).2.2
def Fv(n:Int):∀ (l:List Int) (i:Nat) (nx la:Int) (o:List Int),(rIn n l i nx la o).2.2.length=o.length
 | [],_,_,_,_=>rfl
 | x::r,i,nx,la,o=>by
  simp only[rIn];split
  .rw [Fv n r];simp
  .rw [Fv n r]
def Ii(l:List Int):∀ (k n:Nat) (nx la:Int) (o:List Int),(Ru l k n nx la o).2.2.length=o.length
 | 0,_,_,_,_=>rfl
 | k+1,n,nx,la,o=>by rw[Ru,Ii l k,Fv]
def O6:∀ (l:List Int) (i:Nat) (o:List Int),(VP l i o).length=o.length
 | [],_,_=>rfl
 | x::r,i,o=>by
  rw[VP,O6 r];split<;>simp
def fine(l:List Int):Bool:=l.all fun x=>decide (0<=x/\x<=15)
def Ij:∀ (l n:List Int),(je n l).2=if fine l then 0 else 2
 | [],n=>by simp[je,fine]
 | x::r,n=>by
  unfold je;by_cases h:0<=x/\x<=15
  .rw [if_pos h,Ij r];simp[fine,h]
  .rw [if_neg h];simp only[fine,azg,decide_eq_false h,azb];rfl
def DW:∀ (l:List Int) (s:Int),(zq l s).2=if fine l then 0 else 2
 | [],n=>by simp[zq,fine]
 | x::r,n=>by
  unfold zq;by_cases h:0<=x/\x<=15
  .rw [if_pos h,DW r];simp[fine,h]
  .rw [if_neg h];simp only[fine,azg,decide_eq_false h,azb];rfl
def yX{x:Int}{r:List Int}:fine (x::r)=true ↔ (0<=x/\x<=15)/\fine r=true:=by simp[fine]
def qJ(n:List Int)(i j:Nat)(v:Int)(h:i<n.length):(n.set i v).getD j 0=if i=j then v else n.getD j 0:=by
 simp only[axQ,azk];by_cases e:i=j
 .subst e;simp[h]
 .simp [e]
def JR:∀ (l n:List Int) (B:Int),fine l=true->n.length=16->(∀ j:Nat,0<=n.getD j 0/\n.getD j 0<=B)->B+l.length<9223372036854775808 ->
 ∀ j:Nat,j<16->(je n l).1.getD j 0=n.getD j 0+(l.count (j:Int):Nat)
 | [],n,B,_,_,_,_,j,_=>by simp[je]
 | x::r,n,B,hf,hn,hb,hB,j,hj=>by
  obtain⟨h,hr⟩:=yX.1 hf;unfold je;rw[if_pos h];have hx:x.toNat<n.length:=by omega
  have hw:IntKind.i64.wrap (n.getD x.toNat 0+1)=n.getD x.toNat 0+1:=by have:=hb x.toNat;simp only[axY]at hB;exact wrap_i64 (by omega) (by omega)
  rw[hw,JR r _ (B+1) hr (by simpa using hn) (fun k=>by
   rw[qJ _ _ _ _ hx];have:=hb k;have:=hb x.toNat;split<;>omega) (by simp only[axY]at hB;omega) j hj,qJ _ _ _ _ hx,azA]
  by_cases e:x.toNat=j
  .have:x=(j:Int):=by omega
   subst e;simp[<- this];omega
  .have:¬ x=(j:Int):=by omega
   simp[e,this]
def ct(l:List Int)(j:Nat):Int:=(l.count (j:Int):Nat)
def nC(l:List Int)(j:Nat):0<=ct l j:=by simp[ct]
def Et(l:List Int)(j:Nat):ct l j<=l.length:=by unfold ct;have:=List.count_le_length (a:=(j:Int)) (l:=l);omega
def ZV(j:Nat):z16.getD j 0=0:=by
 unfold z16
 match j with
 | 0|1|2|3|4|5|6|7|8|9|10|11|12|13|14|15=>rfl
 | j+16=>rfl
def wC{l:List Int}(h:l.length<=320)(hf:fine l=true)(j:Nat)(hj:j<16):(bQ l).1.getD j 0=ct l j:=by
 unfold bQ;rw[if_neg (by omega),JR l z16 0 hf rfl (fun j=>by rw[ZV];omega) (by omega) j hj,ZV];simp[ct]
def O7(l:List Int):(bQ l).2=if 320<(l.length:Int)then 3 else if fine l then 0 else 2:=by
 unfold bQ;split
 .rfl
 .exact Ij l z16
def sumP(c:Nat->Int):Nat->Nat->Int
 | 0,_=>0
 | k+1,i=>c i*2 ^ (15-i)+sumP c k (i+1)
def Uf(n:List Int)(c:Nat->Int)(hc:∀ j,j<16->n.getD j 0=c j)(h0:∀ j,0<=c j/\c j<=320):∀ (k i:Nat) (s:Int),k+i=16->0<=s->s<=10485760*i ->
 IL n k i s=s+sumP c k i
 | 0,_,s,_,_,_=>by simp[IL,sumP]
 | k+1,i,s,h,hs,hs2=>by
  have hp:(2:Int) ^ (15-i)<=2 ^ 15:=by
   have:=ayo (n:=2) (by omega) (show 15-i<=15 by omega)
   exact_mod_cast this
  have hp0:(0:Int)<2 ^ (15-i):=azU (by omega);have hb:=h0 i;have hm:c i*2 ^ (15-i)<=320*2 ^ 15:=Int.mul_le_mul hb.2 hp (by omega) (by omega);have hm0:0<=c i*2 ^ (15-i):=Int.mul_nonneg hb.1 (by omega);unfold IL sumP;rw[hc i (by omega),ayG (by omega),wrap_i64 (n:=c i*2 ^ (15-i)) (by omega) (by omega),wrap_i64 (by omega) (by omega)];rw[Uf n c hc h0 k (i+1) _ (by omega) (by omega) (by omega)];omega
def O8:List Int->Int
 | []=>0
 | x::r=>(if 0<x then 2 ^ (15-x.toNat)else 0)+O8 r
def Ik:∀ (l:List Int) (s:Int),fine l=true->0<=s->s+32768*l.length<9223372036854775808->(zq l s).1=s+O8 l
 | [],s,_,_,_=>by simp[zq,O8]
 | x::r,s,hf,hs,hb=>by
  obtain⟨h,hr⟩:=yX.1 hf;unfold zq;rw[if_pos h];simp only[axY]at hb;have hp:(2:Int) ^ (15-x.toNat)<=2 ^ 15:=by
   have:=ayo (n:=2) (by omega) (show 15-x.toNat<=15 by omega)
   exact_mod_cast this
  have hp0:(0:Int)<2 ^ (15-x.toNat):=azU (by omega);have e:min (15-x).toNat 64=15-x.toNat:=by omega
  rw[e,wrap_i64 (n:=2 ^ (15-x.toNat)) (by omega) (by omega),wrap_i64 (by omega) (by omega)];by_cases h0:0<x
  .rw [if_pos h0,Ik r _ hr (by omega) (by omega)];simp only[O8,if_pos h0];omega
  .rw [if_neg h0,Ik r _ hr (by omega) (by omega)];simp only[O8,if_neg h0];omega
def ab4(x:Int)(r:List Int)(j:Nat):ct (x::r) j=ct r j+if x=(j:Int)then 1 else 0:=by
 unfold ct;rw[azA];by_cases h:x=(j:Int)<;>simp[h]
def Ug:∀ l:List Int,fine l=true->sumP (ct l) 15 1=O8 l
 | [],_=>by simp[sumP,O8,ct]
 | x::r,hf=>by
  obtain⟨h,hr⟩:=yX.1 hf;have ih:=Ug r hr;have hx:x=0\/x=1\/x=2\/x=3\/x=4\/x=5\/x=6\/x=7\/x=8\/x=9\/x=10\/x=11\/x=12\/x=13\/x=14\/x=15:=by omega
  unfold O8;rw[<- ih];simp only[sumP,ab4];rcases hx with rfl|rfl|rfl|rfl|rfl|rfl|rfl|rfl|rfl|rfl|rfl|rfl|rfl|rfl|rfl|rfl<;>simp<;>omega
def OC(l:List Int):kE l=iQ l:=by
 unfold kE iQ;rw[O7,DW];by_cases h:320<(l.length:Int)
 .simp [h]
 .by_cases hf:fine l=true
  .simp only[h,hf,if_false,if_true];rw[Uf (bQ l).1 (ct l) (fun j hj=>wC (by omega) hf j hj) (fun j=>⟨nC l j,by have:=Et l j;omega⟩) 15 1 0 rfl (by omega) (by omega),Ug l hf,Ik l 0 hf (by omega) (by omega)]
  .simp [h,hf]
def fst(c:Nat->Int):Nat->Int
 | 0=>0
 | 1=>0
 | i+2=>2*(fst c (i+1)+c (i+1))
def rQ(c:Nat->Int)(h0:∀ j,0<=c j/\c j<=320):∀ i:Nat,0<=fst c i/\fst c i+640<=640*2 ^ i
 | 0=>by simp[fst]
 | 1=>by simp[fst]
 | i+2=>by
  have:=rQ c h0 (i+1);have:=h0 (i+1);have e:(2:Int) ^ (i+2)=2*2 ^ (i+1):=by rw[aAg];omega
  rw[e];simp only[fst];omega
def JU(n:List Int)(c:Nat->Int)(hc:∀ j,0<j->j<16->n.getD j 0=c j)(h0:∀ j,0<=c j/\c j<=320):∀ (k i:Nat) (f:List Int),k+i=16->0<i->f.length=17 ->
 (∀ j,j<=i->f.getD j 0=fst c j)->∀ j,j<=16->(tC n k i f).getD j 0=fst c j
 | 0,i,f,hk,hi,hl,hf,j,hj=>by
  unfold tC;exact hf j (by omega)
 | k+1,i,f,hk,hi,hl,hf,j,hj=>by
  unfold tC;refine JU n c hc h0 k (i+1) _ (by omega) (by omega) (by simpa using hl) (fun a ha=>?_) j hj;rw[qJ _ _ _ _ (by omega)];by_cases e:i+1=a
  .subst e;rw[if_pos rfl,hf i (by omega),hc i hi (by omega)];have hb:=rQ c h0 i;have hb1:=h0 i;have hp:(2:Int) ^ i<=2 ^ 15:=by
    have:=ayo (n:=2) (by omega) (show i<=15 by omega)
    exact_mod_cast this
   rw[wrap_i64 (n:=fst c i+c i) (by omega) (by omega),wrap_i64 (by omega) (by omega)];obtain⟨m,rfl⟩:∃ m,i=m+1:=⟨i-1,by omega⟩;simp only[fst];omega
  .rw [if_neg e];exact hf a (by omega)
def aeZ(j:Nat):z17.getD j 0=0:=by
 unfold z17
 match j with
 | 0|1|2|3|4|5|6|7|8|9|10|11|12|13|14|15|16=>rfl
 | j+17=>rfl
def Aa{l:List Int}(h:l.length<=320)(hf:fine l=true)(j:Nat)(hj:j<=16):(eY (bQ l).1).getD j 0=fst (ct l) j:=by
 unfold eY;refine JU _ (ct l) (fun a ha hb=>?_) (fun j=>⟨nC l j,by have:=Et l j;omega⟩) 15 1 z17 rfl (by omega) rfl (fun a ha=>?_) j hj
 .rw [qJ _ _ _ _ (by rw[kN];omega),if_neg (by omega),wC h hf a hb]
 .rw [aeZ]
  match a with
  | 0|1=>rfl
def code(l:List Int)(p:Nat):Int:=if 0<l.getD p 0 then fst (ct l) (l.getD p 0).toNat+ct (l.take p) (l.getD p 0).toNat else -1
def DX(l:List Int)(h:l.length<=320)(hf:fine l=true):∀ (todo pre next:List Int),l=pre++todo->next.length=17 ->
 (∀ j:Nat,0<j->j<16->next.getD j 0=fst (ct l) j+ct pre j)->∀ j,j<todo.length->(qV next todo).getD j 0=code l (pre.length+j)
 | [],pre,next,_,_,_,j,hj=>by simp at hj
 | x::r,pre,next,e,hn,hx,j,hj=>by
  have hat:l.getD pre.length 0=x:=by rw[e];simp
  have htk:l.take pre.length=pre:=by rw[e];simp
  have hxr:0<=x/\x<=15:=by have:=ax5.1 hf x (by rw[e];simp);simpa using this
  unfold qV;by_cases h0:0<x
  .rw [if_pos h0];have hb:=rQ (ct l) (fun j=>⟨nC l j,by have:=Et l j;omega⟩) x.toNat;have hp:(2:Int) ^ x.toNat<=2 ^ 15:=by
    have:=ayo (n:=2) (by omega) (show x.toNat<=15 by omega)
    exact_mod_cast this
   have hpl:pre.length<=l.length:=by rw[e];simp
   have hcp:=Et pre x.toNat;have hcn:=nC pre x.toNat;have hnx:=hx x.toNat (by omega) (by omega)
   match j with
   | 0=>simp only[code,ay0,hat,htk,if_pos h0,List.getD_cons_zero,hnx]
   | j+1=>
    have:=DX l h hf r (pre++[x]) (next.set x.toNat (IntKind.i64.wrap (next.getD x.toNat 0+1))) (by simp[e]) (by simpa using hn) (fun a ha hb2=>by
     rw[qJ _ _ _ _ (by omega),wrap_i64 (by omega) (by omega)];have ea:ct (pre++[x]) a=ct pre a+if x=(a:Int)then 1 else 0:=by unfold ct;rw[aAc,azA];by_cases q:x=(a:Int)<;>simp[q]
     rw[ea];by_cases q:x.toNat=a
     .subst q;rw[if_pos rfl,if_pos (by omega),hnx];omega
     .rw [if_neg q,if_neg (by omega),hx a ha hb2];omega) j (by simpa using hj)
    simp only[az4];rw[this];simp only[axR,axY,ax3];congr 1;omega
  .rw [if_neg h0]
   match j with
   | 0=>simp only[code,ay0,hat,if_neg h0,List.getD_cons_zero]
   | j+1=>
    have:=DX l h hf r (pre++[x]) next (by simp[e]) hn (fun a ha hb2=>by
     have ea:ct (pre++[x]) a=ct pre a+if x=(a:Int)then 1 else 0:=by unfold ct;rw[aAc,azA];by_cases q:x=(a:Int)<;>simp[q]
     rw[ea,if_neg (by omega),hx a ha hb2];omega) j (by simpa using hj)
    simp only[az4];rw[this];simp only[axR,axY,ax3];congr 1;omega
def JF{l:List Int}(h:l.length<=320)(hf:fine l=true)(j:Nat)(hj:j<l.length):(pW l).getD j 0=code l j:=by
 unfold pW;have hl:(eY (bQ l).1).length=17:=by unfold eY;rw[mD];rfl
 have:=DX l h hf l [] _ rfl hl (fun a ha hb=>by rw[Aa h hf a (by omega)];simp[ct]) j hj;simpa using this
def Inv(l:List Int)(n:Nat)(m nx la:Int):Prop :=
 0<=la/\la<=n/\0<=nx/\(la=0->nx=0)/\(if 0<la then(nx+1)*2 ^ (n-la.toNat)else nx)=fst (ct l) n+m
def step_eq{l:List Int}(h:l.length<=320){n:Nat}(hn:n<=15){m nx la:Int}(hm:m<=320)(hi:Inv l n m nx la):Ue n nx la=fst (ct l) n+m:=by
 obtain⟨h1,h2,h3,h4,h5⟩:=hi;unfold Ue;have hb:=rQ (ct l) (fun j=>⟨nC l j,by have:=Et l j;omega⟩) n;have hp:(2:Int) ^ n<=2 ^ 15:=by
  have:=ayo (n:=2) (by omega) (show n<=15 by omega)
  exact_mod_cast this
 by_cases hl:0<la
 .rw [if_pos hl]at h5 ⊢;have hp1:(1:Int)<=2 ^ (n-la.toNat):=azU (by omega);have hle:nx+1<=(nx+1)*2 ^ (n-la.toNat):=by have:=Int.mul_le_mul_of_nonneg_left hp1 (show 0<=nx+1 by omega);omega
  rw[wrap_i64 (n:=nx+1) (by omega) (by omega),wrap_i64 (n:=(n:Int)-la) (by omega) (by omega),wrap_u64 (by omega) (by omega)];have e:min ((n:Int)-la).toNat 64=n-la.toNat:=by omega
  rw[e,h5,wrap_i64 (by omega) (by omega)]
 .rw [if_neg hl]at h5 ⊢;exact h5
def Rx(l:List Int)(h:l.length<=320)(n:Nat)(hn:n<=15)(hn0:0<n):∀ (todo pre o:List Int) (nx la:Int),l=pre++todo->o.length=l.length->Inv l n (ct pre n) nx la ->
 Inv l n (ct l n) (rIn n todo pre.length nx la o).1 (rIn n todo pre.length nx la o).2.1 /\
  (∀ j,j<l.length->(rIn n todo pre.length nx la o).2.2.getD j 0=if l.getD j 0=n/\pre.length<=j then code l j else o.getD j 0)
 | [],pre,o,nx,la,e,ho,hi=>by
  simp only[ax1]at e;subst e;refine⟨hi,fun j hj=>?_⟩;rw[if_neg (by omega)];rfl
 | x::r,pre,o,nx,la,e,ho,hi=>by
  have hat:l.getD pre.length 0=x:=by rw[e];simp
  have htk:l.take pre.length=pre:=by rw[e];simp
  have hpl:pre.length<l.length:=by rw[e];simp
  have hcp:=Et pre n;have hcn:=nC pre n;have ea:ct (pre++[x]) n=ct pre n+if x=(n:Int)then 1 else 0:=by unfold ct;rw[aAc,azA];by_cases q:x=(n:Int)<;>simp[q]
  have el:pre.length+1=(pre++[x]).length:=by simp
  unfold rIn;by_cases hx:x=(n:Int)
  .rw [if_pos hx];have hs:=step_eq h hn (by omega) hi;have hb:=rQ (ct l) (fun j=>⟨nC l j,by have:=Et l j;omega⟩) n;rw[hs,el];obtain⟨g1,g2⟩:=Rx l h n hn hn0 r (pre++[x]) (o.set pre.length (fst (ct l) n+ct pre n)) (fst (ct l) n+ct pre n) n (by simp[e]) (by simpa using ho) (by
    refine⟨by omega,by omega,by omega,by omega,?_⟩;rw[if_pos (by omega),ea,if_pos hx];simp;omega)
   refine⟨g1,fun j hj=>?_⟩;rw[g2 j hj,qJ _ _ _ _ (by omega)];by_cases q:pre.length=j
   .subst q;rw[if_neg (by simp),if_pos rfl,if_pos ⟨by rw[hat,hx],axO _⟩];simp only[code,hat,htk];rw[if_pos (by omega),hx];rfl
   .rw [if_neg q];by_cases q2:l.getD j 0=n
    .simp only[q2,axR,axY,ax3];by_cases q3:pre.length<=j
     .rw [if_pos ⟨trivial,by omega⟩,if_pos ⟨trivial,q3⟩]
     .rw [if_neg (by omega),if_neg (by omega)]
    .rw [if_neg (fun z=>q2 z.1),if_neg (fun z=>q2 z.1)]
  .rw [if_neg hx,el];obtain⟨g1,g2⟩:=Rx l h n hn hn0 r (pre++[x]) o nx la (by simp[e]) ho (by rw[ea,if_neg hx];simpa using hi);refine⟨g1,fun j hj=>?_⟩;rw[g2 j hj];by_cases q2:l.getD j 0=n
   .have q:pre.length≠j:=by rintro rfl;exact hx (by rw[<- hat,q2])
    simp only[q2,axR,axY,ax3];by_cases q3:pre.length<=j
    .rw [if_pos ⟨trivial,by omega⟩,if_pos ⟨trivial,q3⟩]
    .rw [if_neg (by omega),if_neg (by omega)]
   .rw [if_neg (fun z=>q2 z.1),if_neg (fun z=>q2 z.1)]
def Uh(l:List Int)(h:l.length<=320):∀ (k n:Nat) (o:List Int) (nx la:Int),k+n=16->0<n->o.length=l.length->Inv l n 0 nx la ->
 ∀ j,j<l.length->(Ru l k n nx la o).2.2.getD j 0=if(n:Int)<=l.getD j 0/\l.getD j 0<=15 then code l j else o.getD j 0
 | 0,n,o,nx,la,hk,hn,ho,hi,j,hj=>by
  rw[if_neg (by omega)];rfl
 | k+1,n,o,nx,la,hk,hn,ho,hi,j,hj=>by
  unfold Ru;obtain⟨g1,g2⟩:=Rx l h n (by omega) hn l [] o nx la rfl ho (by simpa[ct]using hi);simp only[ax3]at g1 g2;have hlen:(rIn n l 0 nx la o).2.2.length=l.length:=by rw[Fv];exact ho
  have g3:Inv l (n+1) 0 (rIn n l 0 nx la o).1 (rIn n l 0 nx la o).2.1:=by
   obtain⟨a1,a2,a3,a4,a5⟩:=g1;refine⟨a1,by omega,a3,a4,?_⟩;obtain⟨m,rfl⟩:∃ m,n=m+1:=⟨n-1,by omega⟩;simp only[fst];rw[<- a5];by_cases q:0<(rIn ((m+1:Nat):Int) l 0 nx la o).2.1
   .rw [if_pos q,if_pos q];have e:m+1+1-(rIn ((m+1:Nat):Int) l 0 nx la o).2.1.toNat=(m+1-(rIn ((m+1:Nat):Int) l 0 nx la o).2.1.toNat)+1:=by omega
    rw[e,aAg,<- Int.mul_assoc];omega
   .rw [if_neg q,if_neg q,a4 (by omega)];rfl
  rw[Uh l h k (n+1) _ _ _ (by omega) (by omega) hlen g3 j hj,g2 j hj];by_cases q1:((n+1:Nat):Int)<=l.getD j 0/\l.getD j 0<=15
  .rw [if_pos q1,if_pos ⟨by omega,q1.2⟩]
  .rw [if_neg q1];by_cases q2:l.getD j 0=n
   .rw [if_pos ⟨q2,by omega⟩,if_pos (by omega)]
   .rw [if_neg (fun z=>q2 z.1),if_neg (by omega)]
def Ui(l:List Int):∀ (todo pre o:List Int),l=pre++todo->o.length=l.length->∀ j,j<l.length->(VP todo pre.length o).getD j 0=if l.getD j 0=0/\pre.length<=j then -1 else o.getD j 0
 | [],pre,o,e,ho,j,hj=>by
  simp only[ax1]at e;subst e;rw[if_neg (by omega)];rfl
 | x::r,pre,o,e,ho,j,hj=>by
  have hat:l.getD pre.length 0=x:=by rw[e];simp
  have el:pre.length+1=(pre++[x]).length:=by simp
  have hpl:pre.length<l.length:=by rw[e];simp
  unfold VP;rw[el,Ui l r (pre++[x]) _ (by simp[e]) (by split<;>simp[ho]) j hj];simp only[axR,axY,ax3];by_cases q:pre.length=j
  .subst q;rw[if_neg (by omega),hat];by_cases q2:x=0
   .rw [if_pos q2,if_pos ⟨q2,axO _⟩,qJ _ _ _ _ (by omega),if_pos rfl]
   .rw [if_neg q2,if_neg (fun z=>q2 z.1)]
  .have e2:(if x=0 then o.set pre.length (-1)else o).getD j 0=o.getD j 0:=by
    split
    .rw [qJ _ _ _ _ (by omega),if_neg q]
    .rfl
   rw[e2];by_cases q2:l.getD j 0=0
   .by_cases q3:pre.length<=j
    .rw [if_pos ⟨q2,by omega⟩,if_pos ⟨q2,q3⟩]
    .rw [if_neg (by omega),if_neg (by omega)]
   .rw [if_neg (fun z=>q2 z.1),if_neg (fun z=>q2 z.1)]
def Ry{l:List Int}(h:l.length<=320)(hf:fine l=true)(j:Nat)(hj:j<l.length):(iI l).getD j 0=code l j:=by
 unfold iI;have hlen:(Ru l 15 1 0 0 (List.replicate l.length 0)).2.2.length=l.length:=by rw[Ii];simp
 have h1:=Ui l l [] _ rfl hlen j hj;simp only[ax3]at h1;have h2:=Uh l h 15 1 (List.replicate l.length 0) 0 0 rfl (by omega) (by simp) ⟨by omega,by omega,by omega,fun _=>rfl,by simp[fst]⟩ j hj;rw[h1,h2];have hr:0<=l.getD j 0/\l.getD j 0<=15:=by have:=ax5.1 hf (l.getD j 0) (by rw[axQ,axI hj];exact List.getElem_mem hj);simpa using this
 by_cases q:l.getD j 0=0
 .rw [if_pos ⟨q,by omega⟩];simp only[code];rw[if_neg (by omega)]
 .rw [if_neg (fun z=>q z.1),if_pos (by omega)]
def zZ(l:List Int):(pW l).length=l.length:=by unfold pW;rw[Ah]
def O9(l:List Int):(iI l).length=l.length:=by unfold iI;rw[O6,Ii];simp
def ZE{l:List Int}(h:l.length<=320)(hf:fine l=true):pW l=iI l:=by
 refine List.ext_getElem (by rw[zZ,O9]) fun j h1 h2=>?_;have hj:j<l.length:=by rw[zZ]at h1;exact h1
 have e1:=JF h hf j hj;have e2:=Ry h hf j hj;rw[axQ,axI h1]at e1;rw[axQ,axI h2]at e2;simp only[ayv]at e1 e2;rw[e1,e2]
def x9{l:List Int}(he:(iQ l).2=0):l.length<=320/\fine l=true:=by
 unfold iQ at he;rw[DW]at he;by_cases h:320<(l.length:Int)
 .rw [if_pos h]at he;cases he
 .rw [if_neg h]at he;by_cases hf:fine l=true
  .exact ⟨by omega,hf⟩
  .simp [hf]at he
def bits_nat{v:Nat}(h:v<9223372036854775808):(AM.bits .i64 (v:Int)).toNat=v:=by
 unfold AM.bits;simp[IntKind.bits];omega
def iU(b:List UInt8)(i:Nat):Int:=((b.getD (i/8) 0).toNat/2 ^ (i%8)%2:Nat)
def Ux{C:Ctx}{T:Cf}{f m:Nat}{c:Code}{σ:Type}(I:σ->Prop)(fr:σ->AM.Frame)(H:σ->AM.Heap)(P:σ->AM.Out->Prop)(μ:σ->Nat)
 (step:∀ s,I s->∃ o,Run C T f m c (fr s) (H s) o/\((∃ s',I s'/\o=⟨.normal,fr s',H s'⟩/\(∀ o',P s' o'->P s o')/\μ s'<μ s)\/(o.ex≠.normal/\P s o)))(s:σ)(hs:I s) :
 ∃ o,Run C T f m (.loop c) (fr s) (H s) o/\P s o:=by
 generalize hn:μ s=n;induction n using Nat.strongRecOn generalizing s with
 | _ n ih=>
  obtain⟨o,h1,⟨s',a,b,c,d⟩|⟨a,b⟩⟩:=step s hs
  .obtain ⟨o',g1,g2⟩:=ih (μ s') (by omega) s' a rfl;subst b;exact⟨o',Run.yG h1 g1,c _ g2⟩
  .exact ⟨o,Run.AB h1 a,b⟩
def mxL:Int->List Int->Int
 | m,[]=>m
 | m,x::r=>mxL (if m<x then x else m) r
def DT:∀ (l:List Int) (m:Int),0<=m->m<=15->fine l=true->0<=mxL m l/\mxL m l<=15
 | [],m,h0,h1,_=>⟨h0,h1⟩
 | x::r,m,h0,h1,hf=>by
  obtain⟨h,hr⟩:=yX.1 hf;unfold mxL;refine DT r _ ?_ ?_ hr<;>split<;>omega
def jR(i code:Int):List Int->List Int->Nat->Option Nat
 | x::r,y::cs,j=>if x=i/\y=code then some j else jR i code r cs (j+1)
 | _,_,_=>none
def Q8(l codes:List Int)(b:List UInt8)(a:Nat):Nat->Nat->Int->Int×Int×Int
 | 0,_,_=>(0,0,5)
 | k+1,i,code=>if 8*b.length-(i:Int)<a then(0,0,4)else
  match jR i (2*code+iU b (a+i-1)) l codes 0 with
  | some j=>(j,i,0)
  | none=>Q8 l codes b a k (i+1) (2*code+iU b (a+i-1))
def aiS(l codes:List Int)(b:List UInt8)(a:Nat):Int×Int×Int:=Q8 l codes b a (mxL 0 l).toNat 1 0
def t3(r:Int×Int×Int):AV:=.tup [.int .i64 r.1,.int .i64 r.2.1,.int .i64 r.2.2]
def uO(l:List Int)(b:List UInt8)(a:Int):Int×Int×Int :=
 if(iQ l).2=0 then(if a<0 then(0,0,2)else aiS l (iI l) b a.toNat)else(0,0,(iQ l).2)
def bsI(H:AM.Heap)(x:Int):bT X H 36 1 [(0,.int .i64 x)]=some (.ro 1 (.pi .i64 [x]) 0,H):=by kernel_rfl
def FU{C:Ctx}{T:Cf}{f m:Nat}{a b:Code}{fr fr1:AM.Frame}{H H1:AM.Heap}{Q:AM.Out->Prop}(h0:Run C T f m a fr H ⟨.normal,fr1,H1⟩)(h1:∃ o,Run C T f m b fr1 H1 o/\Q o):∃ o,Run C T f m (.seq a b) fr H o/\Q o:=by
 obtain⟨o,g1,g2⟩:=h1;exact⟨o,Run.seq h0 g1,g2⟩
def aaA{C:Ctx}{T:Cf}{f m id:Nat}{a c rest:Code}{fr fr1:AM.Frame}{H H1:AM.Heap}{P Q:AM.Out->Prop}(h0:Run C T f m a fr H ⟨.normal,fr1,H1⟩)(hl:∃ o,Run C T f m c fr1 H1 o/\P o)
 (h1:∀ o,P o->(∃ fr' H',jT id o=⟨.normal,fr',H'⟩/\∃ o',Run C T f m rest fr' H' o'/\Q o')\/((jT id o).ex≠.normal/\Q (jT id o))):∃ o,Run C T f m (.seq (.seq a (.block id c)) rest) fr H o/\Q o:=by
 obtain⟨o,g1,g2⟩:=hl;have hb:Run C T f m (.seq a (.block id c)) fr H (jT id o):=Run.seq h0 (Run.block' g1);rcases h1 o g2 with⟨fr',H',e,o',h2,h3⟩|⟨h2,h3⟩
 .rw [e]at hb;exact⟨o',Run.seq hb h2,h3⟩
 .exact ⟨_,Run.bK hb h2,h3⟩
end Go.Proofs.Ytbodincpjijdiaa
