/- IN to IK: texts of this claim, one behind the other; what each shows stands at its head. -/
import Derived.Test.YtbodincpjijdiaaAm4
import Derived.Test.YtbodincpjijdiaaMg7
set_option linter.defProp false
set_option linter.unusedSimpArgs false
set_option linter.unusedVariables false
set_option maxRecDepth 100000
set_option maxHeartbeats 8000000
namespace Go.Proofs.Ytbodincpjijdiaa
open Go.AM
section
variable {c:Nat}{b:List UInt8}{mo n:Int}{t:Nat}{H:AM.Heap}{lb nb rb o:Nat}{la oa:Option Nat}{acc:List Int}{s:Is}
def AgV.ne(h:AgV c b mo n t H lb nb rb o la oa acc s):lb≠nb/\lb≠rb/\lb≠o/\nb≠rb/\nb≠o/\rb≠o/\(∀ a,la=some a->lb≠a/\nb≠a/\rb≠a/\o≠a/\∀ x,oa=some x->a≠x)/\(∀ a,oa=some a->lb≠a/\nb≠a/\rb≠a/\o≠a):=by
 have hn:=h.nd;refine⟨?_,?_,?_,?_,?_,?_,?_,?_⟩
 .intro e;subst e;simp at hn
 .intro e;subst e;simp at hn
 .intro e;subst e;simp at hn
 .intro e;subst e;simp at hn
 .intro e;subst e;simp at hn
 .intro e;subst e;simp at hn
 .intro a ha;subst ha;refine⟨?_,?_,?_,?_,?_⟩
  .intro e;subst e;simp at hn
  .intro e;subst e;simp at hn
  .intro e;subst e;simp at hn
  .intro e;subst e;simp at hn
  .intro x hx e;subst hx e;simp at hn
 .intro a ha;subst ha;refine⟨?_,?_,?_,?_⟩
  .intro e;subst e;simp at hn
  .intro e;subst e;simp at hn
  .intro e;subst e;simp at hn
  .intro e;subst e;simp at hn
def LsV.at'{lv:AV}(h:LsV t H la lv acc):∀ a,la=some a->a<H.length:=by
 intro a ha;subst ha;obtain⟨g,τ,ob,_,_,h3,_⟩:=h;exact eX h3
def LsV.keep{H':AM.Heap}{lv:AV}(h:LsV t H la lv acc)(hk:∀ a,la=some a->H'[a]?=H[a]?):LsV t H' la lv acc:=by
 cases la with
 | none=>exact h
 | some a=>
  obtain⟨g,τ,ob,h1,h2,h3,h4⟩:=h;exact⟨g,τ,ob,h1,h2,by rw[hk a rfl];exact h3,h4⟩
def AgV.lt(h:AgV c b mo n t H lb nb rb o la oa acc s):lb<H.length/\nb<H.length/\rb<H.length/\o<H.length/\(∀ a,la=some a->a<H.length)/\(∀ a,oa=some a->a<H.length):=by
 obtain⟨lv,τ,_,hb,hl⟩:=h.l;obtain⟨τ2,_,hb2⟩:=h.n;obtain⟨τ3,_,hb3⟩:=h.r;exact⟨eX hb,eX hb2,eX hb3,h.d.lt.1,hl.at',h.d.lt.2⟩
def AgV.reader{H':AM.Heap}{oa':Option Nat}{s':Is}(h:AgV c b mo n t H lb nb rb o la oa acc s)(hV:IrV c b mo t H' o oa' s')(hk:Kpt H H' o oa oa'):AgV c b mo n t H' lb nb rb o la oa' acc s':=by
 obtain⟨n1,n2,n3,n4,n5,n6,n7,n8⟩:=h.ne;obtain⟨l1,l2,l3,l4,l5,l6⟩:=h.lt;have k1:=hk.rest lb l1 n3 (fun a ha=>(n8 a ha).1);have k2:=hk.rest nb l2 n5 (fun a ha=>(n8 a ha).2.1);have k3:=hk.rest rb l3 n6 (fun a ha=>(n8 a ha).2.2.1);have k4:∀ a,la=some a->H'[a]?=H[a]?:=fun a ha=>hk.rest a (l5 a ha) (ax6 (n7 a ha).2.2.2.1) (fun x hx=>(n7 a ha).2.2.2.2 x hx);refine⟨?_,?_,?_,hV,?_⟩
 .obtain ⟨lv,τ,h1,h2,h3⟩:=h.l;exact⟨lv,τ,h1,by rw[k1];exact h2,h3.keep k4⟩
 .obtain ⟨τ,h1,h2⟩:=h.n;exact⟨τ,h1,by rw[k2];exact h2⟩
 .obtain ⟨τ,h1,h2⟩:=h.r;exact⟨τ,h1,by rw[k3];exact h2⟩
 .cases ho:oa with
  | some a=>
   have:=hk.same a ho;rw[this,<- ho];exact h.nd
  | none=>
   cases ho':oa' with
   | none=>rw[<- ho];exact h.nd
   | some a=>
    have hg:=hk.new a ho ho';have hn:=h.nd;rw[ho]at hn;simp only[Option.toList_none,ax1]at hn;rw[azF];refine⟨hn,by simp,?_⟩;intro x hx y hy;simp only[Option.toList_some,ayb]at hy;subst hy;simp only[axV,ax2,ayK,or_false]at hx;rcases hx with(rfl|rfl|rfl|rfl)|hx
    .omega
    .omega
    .omega
    .omega
    .cases la with
     | none=>simp at hx
     | some z=>simp at hx;subst hx;have:=l5 _ rfl;omega
def LsV.app{lv:AV}(y:Int)(h:LsV t H la lv acc)(hl:acc.length<=1000000):∃ lv' H' la',bG X H 36 lv (.ro 1 (.pi .i64 [y]) 0)=some (lv',H')/\LsV t H' la' lv' (acc++[y])/\(∀ a,la=some a->la'=some a)/\(la=none->la'=some H.length)/\H.length<=H'.length /\
 (∀ j,j<H.length->(∀ a,la=some a->j≠a)->H'[j]?=H[j]?)/\∃ a g,lv'=.sl a 0 (acc++[y]).length g:=by
 cases la with
 | none=>
  obtain⟨rfl,τ,hτ,rfl⟩:=h;have hat:(H++[some (⟨.pi .i64 [y],0,none,0,true,false,0⟩:AM.Obj)])[H.length]?=some (some ⟨.pi .i64 [y],0,none,0,true,false,0⟩):=by simp
  refine⟨.sl H.length 0 1 0,H++[some ⟨.pi .i64 [y],0,none,0,true,false,0⟩],some H.length,?_,⟨0,0,_,.inl rfl,rfl,hat,⟨rfl,rfl,rfl,rfl,rfl⟩⟩,fun a h=>(by cases h),fun _=>rfl,by simp,fun j hj _=>axL hj,_,_,rfl⟩;simp only[bG,I7,size3,Uw];simp[gJ,jq,ah,kH,dQ,l9,dh,aS]
 | some a=>
  obtain⟨g,τ,ob,hτ,rfl,ho,hw⟩:=h;obtain⟨ob',w1,w2⟩:=aaT (y:=y) (T:=36) (e:=3) I7 size3 bytes3 Uw ho hw (by omega);refine⟨_,_,some a,w2,⟨g+1,τ,ob',hτ,by simp,setAt ho,w1⟩,fun a' h=>h,fun h=>(by cases h),by simp[AM.upd],fun j hj hja=>by unfold AM.upd;rw[axU (ax6 (hja a rfl))],a,g+1,by simp⟩
end
section
variable {c:Nat}{b:List UInt8}{mo n:Int}{t:Nat}{H:AM.Heap}{lb nb rb o:Nat}{la oa:Option Nat}{acc:List Int}{s:Is}
end
def Cnt(b:List UInt8)(mo:Int){α β:Type}(m:PM α)(d:α)(s1:Is)(m0:PM β)(d0:β)(s:Is)(f:α->β):Prop:=∀ s2 y,dV b mo m d s1 s2 y->dV b mo m0 d0 s s2 (f y)
def Cnt.step{b:List UInt8}{mo:Int}{α β γ:Type}{m:PM γ}{k:γ->PM α}{d:α}{s1 s2:Is}{m0:PM β}{d0:β}{s:Is}{f:α->β}{dx x:γ}(h:Cnt b mo (fC m k) d s1 m0 d0 s f)(h2:dV b mo m dx s1 s2 x):Cnt b mo (k x) d s2 m0 d0 s f:=fun _ _ h3=>h _ _ (h2.bnd h3)
def ny{b:List UInt8}{mo:Int}{n:Nat}{s s':Is}{a:Int}(h:dV b mo (iw b n) 0 s s' a)(hs:ji b mo s):0<=a/\a<((2 ^ n:Nat):Int):=by
 have hp:0<2 ^ n:=Nat.pow_pos (by omega);by_cases he:s.e=0
 .by_cases he2:s'.e=0
  .have h1:=(h.fine he2).2;by_cases hl:s.k+n<=8*b.length
   .rw [EY b s.k s.o n hl]at h1;obtain⟨rfl,_⟩:=jC h1;have:=Ko b s.k n;omega
   .rw [FP b s.k s.o hs.1 n (by omega)]at h1;cases h1
  .have:=(h.err he he2).2;subst this;omega
 .have:=(h.stopped he).2;subst this;omega
theorem acZ {a m:Nat} (ha:a < 65536) (hm:m < 65536):(a ^^^ m = 65535) ↔ a + m = 65535:=by
 have e1:(BitVec.ofNat 16 a).toNat = a:=by simp;omega
 have e2:(BitVec.ofNat 16 m).toNat = m:=by simp;omega
 have e3:(BitVec.ofNat 16 a ^^^ BitVec.ofNat 16 m).toNat = a ^^^ m:=by rw [BitVec.toNat_xor,e1,e2]
 have e4:(~~~ BitVec.ofNat 16 a).toNat = 65535 - a:=by rw [BitVec.toNat_not,e1]
 constructor
 ·intro h
  have h1:BitVec.ofNat 16 a ^^^ BitVec.ofNat 16 m = BitVec.allOnes 16:=BitVec.eq_of_toNat_eq (by rw [e3,h];rfl)
  have h2:BitVec.ofNat 16 m = ~~~ BitVec.ofNat 16 a:=by
   rw [← BitVec.xor_allOnes,← h1,← BitVec.xor_assoc,BitVec.xor_self,BitVec.zero_xor]
  have h3:=congrArg BitVec.toNat h2
  rw [e2,e4] at h3
  omega
 ·intro h
  have h2:BitVec.ofNat 16 m = ~~~ BitVec.ofNat 16 a:=BitVec.eq_of_toNat_eq (by rw [e2,e4];omega)
  rw [← e3,h2,← BitVec.xor_allOnes,← BitVec.xor_assoc,BitVec.xor_self,BitVec.zero_xor]
  rfl
def asb{a m:Nat}(ha:a<65536)(hm:m<65536):IntKind.i64.wrap ((AM.bits .i64 (a:Int) ^^^ AM.bits .i64 (m:Int)).toNat:Nat)=((a ^^^ m:Nat):Int):=by
 have h:=Nat.xor_lt_two_pow (n:=16) ha hm;rw[BitVec.toNat_xor,Sr (by omega),Sr (by omega),wrap_i64 (by omega) (by omega)]
section
variable {c:Nat}{b:List UInt8}{mo:Int}{t:Nat}{H:AM.Heap}{o:Nat}{oa:Option Nat}{s:Is}
def aiv{m:Nat}{E:AM.Heap}(h:IrV c b mo t E 0 oa s)(hk:s.k<=8*b.length)(hb:b.length<=100000):∃ E',IrV c b mo t E' 0 oa { s with k:=(s.k+7)/8*8 }/\∃ code,Try.f81.body.bind (ay [0])=some code/\Run X (evT X) 81 m code [(0,.ptr 0 0 0 0)] E ⟨.normal,[(0,.ptr 0 0 0 0)],E'⟩:=by
 obtain⟨⟨vo,τ1,τ,a1,a2,h0,ho⟩,hne⟩:=id h;refine⟨AM.upd E 0 (some (fU c b mo { s with k:=(s.k+7)/8*8 } vo τ1 τ)),IrV.set hne a1 a2 h.lt.1 ho,_,rfl,?_⟩;have w1:IntKind.i64.wrap ((s.k:Int)+7)=((s.k+7:Nat):Int):=by rw[wrap_i64 (by omega) (by omega)];omega
 have w2:((s.k+7:Nat):Int).tdiv 8=(((s.k+7)/8:Nat):Int):=by rw[ayR (by omega)];omega
 have w2':((s.k+7:Nat):Int)/8=(((s.k+7)/8:Nat):Int):=by omega
 have w3:IntKind.i64.wrap ((((s.k+7)/8:Nat):Int))=(((s.k+7)/8:Nat):Int):=wrap_i64 (by omega) (by omega);have w4:IntKind.i64.wrap ((((s.k+7)/8:Nat):Int)*8)=(((s.k+7)/8*8:Nat):Int):=by rw[wrap_i64 (by omega) (by omega)];omega
 simp only[fU]at h0 ⊢;generalize (s.k + 7)/8 * 8=k1 at *;generalize (s.k + 7)/8=k2 at *;generalize s.k + 7=k3 at *;apply Pe;simp[-getElem?_pos,go_sem,h0,w1,w2,w2',w3,w4]
def Zg{m n q:Nat}{E:AM.Heap}(h:IrV c b mo t E 0 oa s)(hn:n<65536)(hq:q<65536):∃ code,Try.f81.body.bind (ay [1,1,0,1,0])=some code/\Run X (evT X) 81 m code [(0,.ptr 0 0 0 0),(2,.int .i64 (n:Nat)),(3,.int .i64 (q:Nat))] E ⟨.normal,[(0,.ptr 0 0 0 0),(2,.int .i64 (n:Nat)),(29,.bool (s.e==0&&!(n+q==65535)))],E⟩:=by
 refine⟨_,rfl,?_⟩;obtain⟨⟨vo,τ1,τ,a1,a2,h0,ho⟩,hne⟩:=id h;simp only[fU]at h0;have hX:=asb hn hq;have hX2:=hX;simp only[go_sem]at hX2;by_cases he:s.e=0
 .simp only[he,beq_self_eq_true,azh];rw[he]at h0;by_cases hx:n+q=65535
  .have h1:=(acZ hn hq).2 hx;rw[h1]at hX hX2;rw[show(n+q==65535)=true by simpa using hx];apply Pe;simp[-getElem?_pos,go_sem,h0,hX,hX2]
  .have h1:¬ n ^^^ q=65535:=fun h=>hx ((acZ hn hq).1 h);rw[show(n+q==65535)=false by simpa using hx];generalize n ^^^ q=z at *;have h2:((z:Int) != 65535)=true:=by simp;omega
   apply Pe;simp[-getElem?_pos,go_sem,h0,hX,hX2,h2]
 .rw [show(s.e==0)=false by simpa using he,azb];have heb:(s.e==0)=false:=by simpa using he
  apply Pe;simp[-getElem?_pos,go_sem,h0,he,heb]
def xY(n i:Nat):AM.Frame:=[(0,.ptr 0 0 0 0),(2,.int .i64 (n:Nat)),(4,.int .i64 (i:Nat))]
def ac0{m n i:Nat}{E:AM.Heap}(h:IrV c b mo t E 0 oa s):∃ code,Try.f81.body.bind (ay [1,1,1,1,0,0,0,0])=some code/\Run X (evT X) 81 m code (xY n i) E ⟨.normal,xY n i++[(41,.bool (decide (i<n)&&(s.e==0)))],E⟩:=by
 refine⟨_,rfl,?_⟩;obtain⟨⟨vo,τ1,τ,a1,a2,h0,ho⟩,hne⟩:=id h;simp only[fU]at h0;by_cases hi:i<n
 .have hI:(i:Int)<(n:Int):=by omega
  simp only[xY,hi,decide_true,azh];apply Pe;simp[-getElem?_pos,go_sem,h0,hI]
 .have hI:¬ (i:Int)<(n:Int):=by omega
  simp only[xY,hi,decide_false,azb];apply Pe;simp[-getElem?_pos,go_sem,h0,hI]
def byP(b:List UInt8)(mo:Int):PM Unit:=fC (iw b 8) fun c=>qZ mo (UInt8.ofNat c.toNat)
def aiw{m n i:Nat}{E:AM.Heap}{d:Bool}(h:IrV c b mo t E 0 oa s)(hs:ji b mo s)(hb:b.length<=100000)(hm:mo<=1000000):∃ E' oa' s',IrV c b mo t E' 0 oa' s'/\dV b mo (byP b mo) () s s' ()/\Kpt E E' 0 oa oa'/\∃ code,Try.f81.body.bind (ay [1,1,1,1,0,0,1,0,0])=some code /\
 Run X (evT X) 81 m code (xY n i++[(41,.bool d)]) E ⟨.normal,xY n i,E'⟩:=by
 obtain⟨E1,oa1,s1,a,h1,h2,h3,h4⟩:=sN (n:=8) (I:=8) rfl h hs hb (by omega);obtain⟨ra,rb⟩:=ny h3 hs;obtain⟨E2,oa2,s2,g1,g2,g3,g4⟩:=LD (y:=UInt8.ofNat a.toNat) h2 h3.1 hm;have hy:(((UInt8.ofNat a.toNat).toNat:Nat):Int)=a:=by rw[ayU,ayN (by omega)];omega
 rw[hy]at g1;refine⟨E2,oa2,s2,g2,h3.bnd g3,h4.trans g4,_,rfl,?_⟩;have w:IntKind.u8.wrap a=a:=wrap_u8 (by omega) (by omega);simp only[xY];apply Pe;simp[-getElem?_pos,go_sem,h1,w,g1]
def Om{m:Nat}{E:AM.Heap}(h:IrV c b mo t E 0 oa s)(hs:ji b mo s)(he:s.e=0)(hb:b.length<=100000)(hm:mo<=1000000):∃ code,Try.f81.body=some code /\
 aj (jO fun fr E'=>∃ s' oa',IrV c b mo t E' 0 oa' s'/\(∀ x,oa=some x->oa'=some x)/\dV b mo (CP b mo) () s s' ()) X (evT X) 81 m code [(0,.ptr 0 0 0 0)] E:=by
 refine⟨_,rfl,?_⟩;obtain⟨E0,hV0,hr0⟩:=aiv (m:=m) h hs.1 hb;have hs0:ji b mo { s with k:=(s.k+7)/8*8 }:=⟨by have:=hs.1;simp;omega,hs.2⟩;have hR0:dV b mo aaq () s { s with k:=(s.k+7)/8*8 } ():=by rw[he];exact dV.Sm (by simpa[he]using hs0) he rfl
 apply aj.seq (piece hr0 _ rfl);obtain⟨E1,oa1,s1,n,h1,h2,h3,h4⟩:=sN (n:=16) (I:=16) rfl hV0 hs0 hb (by omega);obtain⟨na,nb⟩:=ny h3 hs0;apply aj.seq (fr':=[(0,.ptr 0 0 0 0),(2,.int .i64 n)]) (H':=E1)
 .apply Pe;simp[-getElem?_pos,go_sem,h1,ak]
 obtain⟨E2,oa2,s2,q,g1,g2,g3,g4⟩:=sN (n:=16) (I:=16) rfl h2 h3.1 hb (by omega);obtain⟨qa,qb⟩:=ny g3 h3.1;obtain⟨n,rfl⟩:∃ n':Nat,n=(n':Int):=⟨n.toNat,by omega⟩;obtain⟨q,rfl⟩:∃ q':Nat,q=(q':Int):=⟨q.toNat,by omega⟩;apply aj.assoc;apply aj.seq (fr':=[(0,.ptr 0 0 0 0),(2,.int .i64 (n:Nat)),(3,.int .i64 (q:Nat))]) (H':=E2)
 .apply Pe;simp[-getElem?_pos,go_sem,g1,ak]
 have hn:n<65536:=by omega
 have hq:q<65536:=by omega
 -- the two lengths
 have hP:∃ E3 oa3 s3,IrV c b mo t E3 0 oa3 s3/\(∀ x,oa=some x->oa3=some x)/\Cnt b mo (tH (byP b mo) n) () s3 (CP b mo) () s (fun u=>u)/\ji b mo s3 /\
  ∃ code,Try.f81.body.bind (ay [1,1,0,1])=some code/\∃ fr,Run X (evT X) 81 m code [(0,.ptr 0 0 0 0),(2,.int .i64 (n:Nat)),(3,.int .i64 (q:Nat))] E2 ⟨.normal,fr,E3⟩/\aB fr 0=.ptr 0 0 0 0/\aB fr 2=.int .i64 (n:Nat):=by
  have hc:Cnt b mo (if(n:Int)+(q:Int)=65535 then tH (byP b mo) n else uy 5) () s2 (CP b mo) () s (fun u=>u):=by intro s4 y hy;have:=hR0.bnd (f:=fun _=>fC (iw b 16) fun n=>fC (iw b 16) fun m=>if n+m=65535 then tH (fC (iw b 8) fun c=>qZ mo (UInt8.ofNat c.toNat)) n.toNat else uy 5) (h3.bnd (f:=fun n=>fC (iw b 16) fun m=>if n+m=65535 then tH (fC (iw b 8) fun c=>qZ mo (UInt8.ofNat c.toNat)) n.toNat else uy 5) (g3.bnd (f:=fun m=>if(n:Int)+m=65535 then tH (fC (iw b 8) fun c=>qZ mo (UInt8.ofNat c.toNat)) (n:Int).toNat else uy 5) (by rw[ayA];exact hy)));exact this
  by_cases hx:n+q=65535
  .rw [if_pos (by omega)]at hc;refine⟨E2,oa2,s2,g2,fun a ha=>g4.same a (h4.same a ha),hc,g3.1,_,rfl,[(0,.ptr 0 0 0 0),(2,.int .i64 (n:Nat)),(29,.bool false)],?_,rfl,rfl⟩;have h3:=Zg (m:=m) g2 hn hq;rw[show(n+q==65535)=true by simpa using hx,az3,Bool.and_false]at h3;apply Run.seq (piece h3 _ rfl);exact Run.cond (d:=false) rfl ⟨0,rfl⟩
  .rw [if_neg (by omega)]at hc;by_cases he2:s2.e=0
   .obtain ⟨E3,oa3,k1,k2,k3⟩:=rX (e:=5) g2;refine⟨E3,oa3,_,k2,fun a ha=>k3.same a (g4.same a (h4.same a ha)),?_,by unfold lD;split<;>exact⟨g3.1.1,g3.1.2⟩,_,rfl,[(0,.ptr 0 0 0 0),(2,.int .i64 (n:Nat))],?_,rfl,rfl⟩
    .intro s4 y hy;have hf:(lD s2 5).e≠0:=by unfold lD;rw[if_pos he2];simp
     obtain⟨rfl,rfl⟩:=hy.stopped hf;exact hc _ _ (dV.bad g3.1 (by simp))
    .have h3:=Zg (m:=m) g2 hn hq;rw[show(n+q==65535)=false by simpa using hx,he2]at h3;apply Run.seq (piece h3 _ rfl);refine Run.cond (d:=true) rfl ?_;apply Pe;simp[-getElem?_pos,go_sem,k1]
   .refine ⟨E2,oa2,s2,g2,fun a ha=>g4.same a (h4.same a ha),?_,g3.1,_,rfl,[(0,.ptr 0 0 0 0),(2,.int .i64 (n:Nat)),(29,.bool false)],?_,rfl,rfl⟩
    .intro s4 y hy;obtain⟨rfl,rfl⟩:=hy.stopped he2;exact hc _ _ (dV.stop g3.1 he2)
    .have h3:=Zg (m:=m) g2 hn hq;rw[show(s2.e==0)=false by simpa using he2,azb]at h3;apply Run.seq (piece h3 _ rfl);exact Run.cond (d:=false) rfl ⟨0,rfl⟩
 obtain⟨E3,oa3,s3,hV3,hm3,hC3,hs3,aix,hcode3,fr3,hr3,f0,f2⟩:=hP;apply aj.seq (fr':=fr3) (H':=E3)
 .exact (axN hcode3) ▸ hr3
 apply aj.seq (fr':=xY n 0) (H':=E3)
 .simp only[xY];apply Pe;simp[-getElem?_pos,go_sem,f0,f2,ak]
 refine aj.mono (Q:=Goes fun fr E'=>∃ s' oa',IrV c b mo t E' 0 oa' s'/\(∀ x,oa=some x->oa'=some x)/\dV b mo (CP b mo) () s s' ()) ?_ fun o h=>⟨.inl h.1,h.2⟩;apply aj.block;refine aj.jP (I:=fun k fr E'=>∃ oa' s' i,i<=n/\k=n-i/\fr=xY n i/\IrV c b mo t E' 0 oa' s'/\(∀ a,oa=some a->oa'=some a)/\ji b mo s'/\Cnt b mo (tH (byP b mo) (n-i)) () s' (CP b mo) () s (fun u=>u)) ?_ (k:=n) ⟨oa3,s3,0,by omega,by omega,rfl,hV3,hm3,hs3,hC3⟩;rintro k fr E' ⟨oa',s',i,hi,rfl,rfl,hV,hm',hs',hC⟩;by_cases hin:i<n/\s'.e=0
 .obtain ⟨E5,oa5,s5,v1,v2,v3,hr8⟩:=aiw (m:=m) (n:=n) (i:=i) (d:=true) hV hs' hb hm;refine aj.of (o:=⟨.normal,xY n (i+1),E5⟩) ?_ (.inl ⟨rfl,n-(i+1),by omega,oa5,s5,i+1,by omega,rfl,rfl,v1,fun a ha=>v3.same a (hm' a ha),v2.1,?_⟩)
  .have h6:=ac0 (m:=m) (n:=n) (i:=i) hV;rw[show decide (i<n)=true by simp[hin.1],hin.2]at h6;apply Run.seq (fr':=xY n i++[(41,.bool true)]) (H':=E')
   .apply Run.seq (piece h6 _ rfl);refine⟨0,?_⟩;simp only[xY];simp[-getElem?_pos,go_sem]
   apply Run.seq (fr':=xY n i) (H':=E5)
   .apply Run.block
    .exact piece hr8 _ rfl
    .simp
   .have w:IntKind.i64.wrap ((i:Int)+1)=((i+1:Nat):Int):=by rw[wrap_i64 (by omega) (by omega)];omega
    simp only[xY];apply Pe;simp[-getElem?_pos,go_sem,w,ak]
  .have:n-i=(n-(i+1))+1:=by omega
   rw[this]at hC;exact Cnt.step (m:=byP b mo) (k:=fun _=>tH (byP b mo) (n-(i+1))) hC v2
 .refine aj.of (o:=⟨.exit 0,xY n i++[(41,.bool false)],E'⟩) ?_ (.inr ⟨by simp,rfl,s',oa',hV,hm',?_⟩)
  .have h6:=ac0 (m:=m) (n:=n) (i:=i) hV;have hd:(decide (i<n)&&(s'.e==0))=false:=by
    by_cases h1:i<n
    .have:¬ s'.e=0:=fun h=>hin ⟨h1,h⟩;simp[this]
    .simp [h1]
   rw[hd]at h6;apply Run.bK
   .apply Run.seq (piece h6 _ rfl);refine⟨0,?_⟩;simp only[xY];simp[-getElem?_pos,go_sem]
   .simp
  .refine hC _ () ?_;by_cases h1:s'.e=0
   .have:n-i=0:=by have:¬ i<n:=fun h=>hin ⟨h,h1⟩;omega
    rw[this];exact dV.ret hs' fun _=>rfl
   .exact dV.stop hs' h1
def U8(h:IrV c b mo t H o oa s)(hs:ji b mo s)(he:s.e=0)(hb:b.length<=100000)(hm:mo<=1000000):∃ H' oa' s',evT X 81 [.ptr o 0 0 0] H=some (.tup [],H')/\IrV c b mo t H' o oa' s'/\dV b mo (CP b mo) () s s' ()/\Kpt H H' o oa oa':=by
 obtain⟨code,hc⟩:∃ code,Try.f81.body=some code:=⟨_,rfl⟩;obtain⟨H',oa',s',a,h1,h2,h3,h4⟩:=DI (f:=81) (n:=2) (xs:=[]) (ys:=[]) (m:=CP b mo) (d:=()) (v:=fun _=>[]) Try.func81 hc rfl h (fun π K _=>gG.nil) rfl rfl (by simp[dA]) (fun _=>⟨rfl,rfl,rfl⟩) (by
  intro mm E oa1 hE;obtain⟨code,hc,ht⟩:=Om (m:=mm) hE hs he hb hm;refine⟨code,hc,?_⟩;rw[agA];refine ht.mono fun o ho=>⟨ho.1,?_⟩;obtain⟨s',oa',q1,q2,q3⟩:=ho.2;exact⟨s',oa',(),rfl,q1,q2,q3⟩)
 exact⟨H',oa',s',h1,h2,h3,h4⟩
end
def DJ:List AV:=PL.map fun p=>.pc [.int .i64 p.1,.int .i64 (p.2:Nat)]
def Oo:AM.Obj:=⟨.pr 2 DJ,0,some 29,1,false,true,0⟩
def asc(x y:Int):lH X 130 [(0,.int .i64 x),(1,.int .i64 y)]=some (.agg (.pi .i64 [x,y])):=by kernel_rfl
def aiy:lH X 131 [(0,.agg (.pi .i64 [3,0])),(1,.agg (.pi .i64 [4,0])),(2,.agg (.pi .i64 [5,0])),(3,.agg (.pi .i64 [6,0])),(4,.agg (.pi .i64 [7,0])),(5,.agg (.pi .i64 [8,0])),(6,.agg (.pi .i64 [9,0])),(7,.agg (.pi .i64 [10,0])),(8,.agg (.pi .i64 [11,1])),(9,.agg (.pi .i64 [13,1])),(10,.agg (.pi .i64 [15,1])),(11,.agg (.pi .i64 [17,1])),(12,.agg (.pi .i64 [19,2])),(13,.agg (.pi .i64 [23,2])),(14,.agg (.pi .i64 [27,2])),(15,.agg (.pi .i64 [31,2])),(16,.agg (.pi .i64 [35,3])),(17,.agg (.pi .i64 [43,3])),(18,.agg (.pi .i64 [51,3])),(19,.agg (.pi .i64 [59,3])),(20,.agg (.pi .i64 [67,4])),(21,.agg (.pi .i64 [83,4])),(22,.agg (.pi .i64 [99,4])),(23,.agg (.pi .i64 [115,4])),(24,.agg (.pi .i64 [131,5])),(25,.agg (.pi .i64 [163,5])),(26,.agg (.pi .i64 [195,5])),(27,.agg (.pi .i64 [227,5])),(28,.agg (.pi .i64 [258,0]))]=some (.agg (.pr 2 DJ)):=by kernel_rfl
def G8:DJ.length=29:=rfl
def Vm{s:Nat}(h:257<=s)(h2:s<286):DJ[s-257]?=some (.pc [.int .i64 (CQ s),.int .i64 (EC s:Nat)]):=by
 have hl:s-257<PL.length:=by show s-257<29;omega
 unfold DJ CQ EC;rw[axP,axI hl,axQ,axI hl];rfl
def TK{s:Nat}(h:257<=s)(h2:s<286):3<=CQ s/\CQ s<=258/\EC s<=5:=by
 have key:(List.range 29).all (fun i=>decide (3<=(PL.getD i (0,0)).1)&&(decide ((PL.getD i (0,0)).1<=258)&&decide ((PL.getD i (0,0)).2<=5)))=true:=by kernel_rfl
 have:=ax5.1 key (s-257) (ayh.2 (by omega));simp only[ax4,decide_eq_true_eq]at this;exact this
section
variable {c:Nat}{b:List UInt8}{mo:Int}{t:Nat}{H:AM.Heap}{o:Nat}{oa:Option Nat}{s:Is}
def IrV.reach(h:IrV c b mo t H o oa s):AM.reach H aA [o] []=o::oa.toList:=by
 obtain⟨⟨vo,τ1,τ,_,_,h0,ho⟩,hne⟩:=h;cases oa with
 | none=>
  obtain⟨_,τ2,_,rfl⟩:=ho;exact kV h0 (by simp[fU,ids,aC])
 | some a=>
  obtain⟨g,τ2,ob,_,rfl,h3,h4⟩:=ho;have hi:=h4.ids;have hne':=hne a rfl;show AM.reach _ (99996+1+1+1+1) [o] []=[o,a];simp[AM.reach,h0,h3,fU,ids,aC,hi,hne']
def aiz{m cd sy:Nat}{dl:List Int}{E:AM.Heap}:∃ code,Try.f87.body.bind (ay [0])=some code/\Run X (evT X) 87 m code [(0,.ptr 0 0 0 0),(1,.int .i64 (sy:Nat)),(2,.ro cd (.pi .i64 dl) 3)] E
 ⟨.normal,[(0,.ptr 0 0 0 0),(1,.int .i64 (sy:Nat)),(2,.ro cd (.pi .i64 dl) 3),(6,.ptr E.length 0 0 0)],E++[some Oo]⟩:=by
 refine⟨_,rfl,?_⟩;simp only[Oo];apply Pe;simp[-getElem?_pos,go_sem,asc,aiy,CO,yB,G8]
def IrV.off{j:Nat}(h:∀ a,oa=some a->j≠a)(h0:j≠o):j∉o::oa.toList:=by
 intro hm;rcases ax2.1 hm with h1|h1
 .exact h0 h1
 .exact h j (by simpa using h1) rfl
def aiA{m cd sy j:Nat}{dl:List Int}{E:AM.Heap}{d:Bool}(h:IrV c b mo t E 0 oa s)(hs:ji b mo s)(hb:b.length<=100000)(QT:257<=sy)(Zh:sy<286)(hj:E[j]?=some (some Oo))(hj0:j≠0)(hja:∀ a,oa=some a->j≠a) :
 ∃ E' oa' s',∃ x:Int,IrV c b mo t E' 0 oa' s'/\dV b mo (iw b (EC sy)) 0 s s' x/\Kpt E E' 0 oa oa'/\∃ code,Try.f87.body.bind (ay [1,1,0])=some code/\Run X (evT X) 87 m code
  [(0,.ptr 0 0 0 0),(1,.int .i64 (sy:Nat)),(2,.ro cd (.pi .i64 dl) 3),(6,.ptr j 0 0 0),(44,.bool d)] E ⟨.normal,[(0,.ptr 0 0 0 0),(2,.ro cd (.pi .i64 dl) 3),(7,.int .i64 (CQ sy+x))],E'⟩:=by
 have hrow:=Vm QT Zh;obtain⟨hb3,hb4,hb5⟩:=TK QT Zh;obtain⟨E1,oa1,s1,x,h1,h2,h3,h4⟩:=sN (n:=EC sy) (I:=(EC sy:Nat)) rfl h hs hb (by omega);obtain⟨xa,xb⟩:=ny h3 hs;have hp:2 ^ EC sy<=2 ^ 5:=ayo (by omega) hb5;refine⟨E1,oa1,s1,x,h2,h3,h4,_,rfl,?_⟩;have hre:=h.reach;have hoff:=IrV.off (o:=0) hja hj0;have hjl:=eX hj;have w1:IntKind.i64.wrap ((sy:Int)-257)=((sy-257:Nat):Int):=by rw[wrap_i64 (by omega) (by omega)];omega
 have w2:IntKind.i64.wrap (CQ sy+x)=CQ sy+x:=wrap_i64 (by omega) (by omega);have h29:sy-257<29:=by omega
 have ase:((sy-257:Nat):Int)<29:=by omega
 generalize CQ sy=B at *;generalize EC sy=Xb at *;generalize sy-257=i at *;generalize 0::oa.toList=L at *;simp only[Oo]at hj;have hll:=G8;generalize DJ=R at *;apply Run.dy (by simp) X9 (by simp)
 ·(conv=>lhs;simp[-getElem?_pos,go_sem,jX,out1,dw,nS,jY,pushes,kK,iP,touched,mentioned,jr,gK,dM,nT,Op.operands,ids,aC,aH,dY,dS,iC,lN,w1,hj,hrow,h1,w2,hre,hll,h29,ase,ak,kL])
 .refine kM (ps:=[(0,5),(1,5),(2,5),(3,5),(4,5),(0,6),(1,6),(2,6),(3,6),(4,6),(5,6),(0,7),(1,7),(2,7),(3,7),(4,7),(5,7),(0,8),(1,8),(2,8),(3,8),(4,8),(5,8),(0,9),(1,9),(2,9),(3,9),(4,9),(5,9),(0,10),(1,10),(2,10),(3,10),(4,10),(5,10),(0,11),(1,11),(2,11),(3,11),(4,11)]) (by kernel_rfl) ?_;by_cases hl:E1.length=E.length
  .simp [y7,bear,disjoint,oZ,Call.operands,aJ,aB,aC,ids,kL,hl,hoff,hjl]
  .simp [y7,bear,disjoint,oZ,Call.operands,aJ,aB,aC,ids,kL,hl,hoff,hjl]
 .rfl
end
section
variable {c:Nat}{b:List UInt8}{mo:Int}{t:Nat}{H:AM.Heap}{o:Nat}{oa:Option Nat}{s:Is}
def abD{d:Nat}(h:d<30):nG d<=13:=by unfold nG;split<;>omega
def TL{d:Nat}(h:d<30):1<=uT d/\uT d<=40000:=by
 unfold uT;split
 .omega
 .have:2 ^ (d/2-1)<=2 ^ 13:=ayo (by omega) (by omega);have h2:(2+d%2)*2 ^ (d/2-1)<=3*2 ^ 13:=Nat.mul_le_mul (by omega) this;omega
def BM(n:Int)(d:Nat):AM.Frame:=[(0,.ptr 0 0 0 0),(7,.int .i64 n),(8,.int .i64 (d:Nat))]
def xZ(n:Int)(k:Int):AM.Frame:=[(0,.ptr 0 0 0 0),(7,.int .i64 n),(9,.int .i64 k)]
def aiB{m d:Nat}{n:Int}{E:AM.Heap}(h:IrV c b mo t E 0 oa s):∃ code,Try.f87.body.bind (ay [1,1,1,1,0,0])=some code/\Run X (evT X) 87 m code (BM n d) E ⟨.normal,BM n d++[(67,.bool (s.e != 0))],E⟩:=by
 refine⟨_,rfl,?_⟩;obtain⟨⟨vo,τ1,τ,a1,a2,h0,ho⟩,hne⟩:=id h;simp only[fU]at h0;by_cases he:s.e=0
 .rw [he]at h0 ⊢;simp only[BM];apply Pe;simp[-getElem?_pos,go_sem,h0]
 .have heb:(s.e != 0)=true:=by simpa using he
  simp only[BM];apply Pe;simp[-getElem?_pos,go_sem,h0,he,heb]
def aew{m d:Nat}{n:Int}{E:AM.Heap}(h:IrV c b mo t E 0 oa s)(hs:ji b mo s)(hb:b.length<=100000)(hd:d<30)(h4:4<=d):∃ E' oa' s',∃ y:Int,IrV c b mo t E' 0 oa' s'/\dV b mo (iw b (nG d)) 0 s s' y/\Kpt E E' 0 oa oa'/\∃ code,Try.f87.body.bind (ay [1,1,1,1,1,1,1,0,1,0,1])=some code /\
 Run X (evT X) 87 m code [(0,.ptr 0 0 0 0),(7,.int .i64 n),(8,.int .i64 (d:Nat)),(10,.int .i64 (nG d:Nat))] E ⟨.normal,xZ n ((uT d:Nat)+y),E'⟩:=by
 have hx:=abD hd;obtain⟨hb1,hb2⟩:=TL hd;obtain⟨E1,oa1,s1,y,h1,h2,h3,h4'⟩:=sN (n:=nG d) (I:=(nG d:Nat)) rfl h hs hb (by omega);obtain⟨ya,yb⟩:=ny h3 hs;have hp:2 ^ nG d<=2 ^ 13:=ayo (by omega) hx;refine⟨E1,oa1,s1,y,h2,h3,h4',_,rfl,?_⟩;have e3:((d:Nat):Int).tmod 2=((d%2:Nat):Int):=by rw[ay9 (by omega)];omega
 have e4:((d:Nat):Int)%2=((d%2:Nat):Int):=by omega
 have w1:IntKind.i64.wrap (2+((d%2:Nat):Int))=((2+d%2:Nat):Int):=by rw[wrap_i64 (by omega) (by omega)];omega
 have hdb:uT d=1+(2+d%2)*2 ^ nG d:=by unfold uT nG;rw[if_neg (by omega),if_neg (by omega)]
 have hm:min (nG d) 64=nG d:=by omega
 have w2:IntKind.i64.wrap (((2+d%2:Nat):Int)*2 ^ nG d)=(((2+d%2)*2 ^ nG d:Nat):Int):=by rw[show((2+d%2:Nat):Int)*2 ^ nG d=(((2+d%2)*2 ^ nG d:Nat):Int)by simp];exact wrap_i64 (by omega) (by omega)
 have w3:IntKind.i64.wrap (1+(((2+d%2)*2 ^ nG d:Nat):Int))=((uT d:Nat):Int):=by rw[hdb,wrap_i64 (by omega) (by omega)];omega
 have w4:IntKind.i64.wrap (((uT d:Nat):Int)+y)=((uT d:Nat):Int)+y:=wrap_i64 (by omega) (by omega);have hx0:¬ ((nG d:Nat):Int)<0:=by omega
 generalize (2 + d % 2) * 2 ^ nG d=w at *;generalize nG d=q at *;generalize uT d=B at *;generalize 2 + d % 2=r at *;generalize d % 2=p at *;simp only[xZ];apply Pe;simp[-getElem?_pos,go_sem,h1,e3,e4,w1,hm,w2,w3,w4,hx0,ak]
def aex{m k:Nat}{n:Int}{E:AM.Heap}{fr:AM.Frame}(g0:aB fr 0=.ptr 0 0 0 0)(g7:aB fr 7=.int .i64 n)(g9:aB fr 9=.int .i64 (k:Nat))(h:IrV c b mo t E 0 oa s):∃ code,Try.f87.body.bind (ay [1,1,1,1,1,1,1,1,0,0])=some code/\Run X (evT X) 87 m code fr E ⟨.normal,xZ n (k:Nat)++[(102,.bool (s.e==0&&decide (s.o.length<k)))],E⟩:=by
 refine⟨_,rfl,?_⟩;obtain⟨⟨vo,τ1,τ,a1,a2,h0,ho⟩,hne⟩:=id h;simp only[fU]at h0;by_cases he:s.e=0
 .rw [he]at h0 ⊢;simp only[beq_self_eq_true,azh,xZ];have hd:decide (s.o.length<k)=decide ((s.o.length:Int)<(k:Int)):=by
   by_cases h1:s.o.length<k
   .rw [decide_eq_true h1,decide_eq_true (by omega)]
   .rw [decide_eq_false h1,decide_eq_false (by omega)]
  rw[hd];cases oa with
  | none=>
   obtain⟨h1,τ2,hτ2,rfl⟩:=ho;rw[h1];apply Pe;simp[-getElem?_pos,go_sem,g0,g7,g9,h0]
  | some a=>
   obtain⟨g,τ2,ob,hτ2,rfl,h3,h4⟩:=ho;have hg:=h4.g;generalize s.o.length=N at *;apply Pe;simp[-getElem?_pos,go_sem,g0,g7,g9,h0,h3,hg]
 .rw [show(s.e==0)=false by simpa using he,azb];have heb:(s.e==0)=false:=by simpa using he
  simp only[xZ];apply Pe;simp[-getElem?_pos,go_sem,g0,g7,g9,h0,he,heb]
def wR(n k:Int)(i:Nat):AM.Frame:=[(0,.ptr 0 0 0 0),(7,.int .i64 n),(9,.int .i64 k),(11,.int .i64 (i:Nat))]
def aey{m n i:Nat}{k:Int}{E:AM.Heap}(h:IrV c b mo t E 0 oa s):∃ code,Try.f87.body.bind (ay [1,1,1,1,1,1,1,1,1,1,0,0,0,0])=some code/\Run X (evT X) 87 m code (wR (n:Nat) k i) E ⟨.normal,wR (n:Nat) k i++[(114,.bool (decide (i<n)&&(s.e==0)))],E⟩:=by
 refine⟨_,rfl,?_⟩;obtain⟨⟨vo,τ1,τ,a1,a2,h0,ho⟩,hne⟩:=id h;simp only[fU]at h0;by_cases hi:i<n
 .have hI:(i:Int)<(n:Int):=by omega
  simp only[wR,hi,decide_true,azh];apply Pe;simp[-getElem?_pos,go_sem,h0,hI]
 .have hI:¬ (i:Int)<(n:Int):=by omega
  simp only[wR,hi,decide_false,azb];apply Pe;simp[-getElem?_pos,go_sem,h0,hI]
def aez{m n i k:Nat}{E:AM.Heap}{d:Bool}(h:IrV c b mo t E 0 oa s)(hs:ji b mo s)(he:s.e=0)(hm:mo<=1000000)(hk:1<=k)(hk2:k<=s.o.length):∃ E' oa' s',IrV c b mo t E' 0 oa' s'/\dV b mo (zD mo k) () s s' ()/\Kpt E E' 0 oa oa'/\∃ code,Try.f87.body.bind (ay [1,1,1,1,1,1,1,1,1,1,0,0,1,0,0])=some code /\
 Run X (evT X) 87 m code (wR (n:Nat) (k:Nat) i++[(114,.bool d)]) E ⟨.normal,wR (n:Nat) (k:Nat) i,E'⟩:=by
 obtain⟨⟨vo,τ1,τ,a1,a2,h0,ho⟩,hne⟩:=id h;have hlt:s.o.length-k<s.o.length:=by omega
 obtain⟨y,hy⟩:∃ y,s.o[s.o.length-k]?=some y:=⟨_,axI hlt⟩;have hyd:s.o.getD (s.o.length-k) 0=y:=by rw[axQ,hy];rfl
 obtain⟨E1,oa1,s1,h1,h2,h3,h4⟩:=LD (y:=y) h hs hm;refine⟨E1,oa1,s1,h2,?_,h4,_,rfl,?_⟩
 .obtain ⟨r1,r2⟩:=h3;refine⟨r1,?_⟩;rw[if_pos he]at r2 ⊢;unfold zD;rw[hyd];exact r2
 .simp only[fU]at h0;cases oa with
  | none=>obtain⟨h1,_⟩:=ho;rw[h1]at hk2;simp at hk2;omega
  | some a=>
   obtain⟨g,τ2,ob,hτ2,rfl,q3,q4⟩:=ho;have hg:=q4.g;have hp:=q4.p;have hi:=q4.ids;have w:IntKind.i64.wrap ((s.o.length:Int)-(k:Int))=((s.o.length-k:Nat):Int):=by rw[wrap_i64 (by have:=hs.2;omega) (by have:=hs.2;omega)];omega
   have hI:((s.o.length-k:Nat):Int)<(s.o.length:Int):=by omega
   have hgen:0+(s.o.length-k)=s.o.length-k:=by omega
   simp only[wR];generalize s.o.length-k=q at *;generalize s.o.length=N at *;apply Pe;simp[-getElem?_pos,go_sem,h0,q3,hg,hp,hi,w,hI,hy,h1]
end
section
variable {c:Nat}{b:List UInt8}{mo:Int}{t:Nat}{H:AM.Heap}{o:Nat}{oa:Option Nat}{s:Is}
def Zi{e:Int}(hs:ji b mo s):ji b mo (lD s e):=by
 unfold lD;split<;>exact⟨hs.1,hs.2⟩
def abE{m d:Nat}{n:Int}{E:AM.Heap}(h:IrV c b mo t E 0 oa s)(hs:ji b mo s)(hb:b.length<=100000)(hd:d<30):∃ E' oa' s',∃ y:Nat,IrV c b mo t E' 0 oa' s'/\dV b mo (iw b (nG d)) 0 s s' (y:Nat)/\Kpt E E' 0 oa oa'/\∃ code,Try.f87.body.bind (ay [1,1,1,1,1,1,1,0])=some code /\
 ∃ fr,Run X (evT X) 87 m code [(0,.ptr 0 0 0 0),(7,.int .i64 n),(8,.int .i64 (d:Nat)),(9,.int .i64 ((1+d:Nat):Int))] E ⟨.normal,fr,E'⟩/\dF [0,7,9] fr=xZ n ((uT d+y:Nat):Int):=by
 by_cases h4:4<=d
 .obtain ⟨E1,oa1,s1,y,h1,h2,h3,hr⟩:=aew (m:=m) (n:=n) h hs hb hd h4;obtain⟨ya,yb⟩:=ny h2 hs;obtain⟨y,rfl⟩:∃ y':Nat,y=(y':Int):=⟨y.toNat,by omega⟩;refine⟨E1,oa1,s1,y,h1,h2,h3,_,rfl,xZ n ((uT d:Nat)+(y:Nat)),?_,?_⟩
  .have h4I:(4:Int)<=((d:Nat):Int):=by omega
   apply Run.seq (fr':=[(0,.ptr 0 0 0 0),(7,.int .i64 n),(8,.int .i64 (d:Nat)),(9,.int .i64 ((1+d:Nat):Int)),(75,.bool true)]) (H':=E)
   .apply Pe;simp[-getElem?_pos,go_sem,h4I]
   refine Run.cond (d:=true) rfl ?_;apply Run.seq (fr':=[(0,.ptr 0 0 0 0),(7,.int .i64 n),(8,.int .i64 (d:Nat)),(10,.int .i64 (nG d:Nat))]) (H':=E)
   .have e1:((d:Nat):Int).tdiv 2=((d/2:Nat):Int):=by rw[ayR (by omega)];omega
    have e2:((d:Nat):Int)/2=((d/2:Nat):Int):=by omega
    have w1:IntKind.i64.wrap (((d/2:Nat):Int))=((d/2:Nat):Int):=wrap_i64 (by omega) (by omega);have w2:IntKind.i64.wrap (((d/2:Nat):Int)-1)=((nG d:Nat):Int):=by unfold nG;rw[if_neg (by omega),wrap_i64 (by omega) (by omega)];omega
    generalize nG d=q at *;generalize d/2=p at *;apply Pe;simp[-getElem?_pos,go_sem,e1,e2,w1,w2,ak]
   exact piece hr _ rfl
  .simp [dF,xZ,aB]
 .have hx:nG d=0:=by unfold nG;rw[if_pos (by omega)]
  have hB:uT d=1+d:=by unfold uT;rw[if_pos (by omega)]
  refine⟨E,oa,s,0,h,?_,Kpt.refl _ _ _,_,rfl,[(0,.ptr 0 0 0 0),(7,.int .i64 n),(8,.int .i64 (d:Nat)),(9,.int .i64 ((1+d:Nat):Int)),(75,.bool false)],?_,?_⟩
  .rw [hx];exact dV.ret hs fun _=>rfl
  .have h4I:¬ (4:Int)<=((d:Nat):Int):=by omega
   apply Run.seq (fr':=[(0,.ptr 0 0 0 0),(7,.int .i64 n),(8,.int .i64 (d:Nat)),(9,.int .i64 ((1+d:Nat):Int)),(75,.bool false)]) (H':=E)
   .apply Pe;simp[-getElem?_pos,go_sem,h4I]
   exact Run.cond (d:=false) rfl ⟨0,rfl⟩
  .rw [hB];simp[dF,xZ,aB]
def abG{m n k:Nat}{E:AM.Heap}(h:IrV c b mo t E 0 oa s)(hs:ji b mo s)(hm:mo<=1000000)(hn:n<=1000000)(hk:1<=k)(hk2:s.e=0->k<=s.o.length):∃ code,Try.f87.body.bind (ay [1,1,1,1,1,1,1,1,1,1])=some code /\
 aj (Goes fun fr E'=>∃ s' oa',IrV c b mo t E' 0 oa' s'/\(∀ x,oa=some x->oa'=some x)/\dV b mo (tH (zD mo k) n) () s s' ()) X (evT X) 87 m code (wR (n:Nat) (k:Nat) 0) E:=by
 refine⟨_,rfl,?_⟩;apply aj.block;refine aj.jP (I:=fun q fr E'=>∃ oa' s' i,i<=n/\q=n-i/\fr=wR (n:Nat) (k:Nat) i/\IrV c b mo t E' 0 oa' s'/\(∀ a,oa=some a->oa'=some a)/\ji b mo s'/\(s'.e=0->k<=s'.o.length)/\Cnt b mo (tH (zD mo k) (n-i)) () s' (tH (zD mo k) n) () s (fun u=>u)) ?_ (k:=n) ⟨oa,s,0,by omega,by omega,rfl,h,fun _ h=>h,hs,hk2,fun _ _ h=>h⟩;rintro q fr E' ⟨oa',s',i,hi,rfl,rfl,hV,hm',hs',hk',hC⟩;have h6:=aey (m:=m) (n:=n) (i:=i) (k:=(k:Nat)) hV;by_cases hin:i<n/\s'.e=0
 .obtain ⟨E5,oa5,s5,v1,v2,v3,hr8⟩:=aez (m:=m) (n:=n) (i:=i) (d:=true) hV hs' hin.2 hm hk (hk' hin.2);have hup:=(RZ k).up b mo s'.k s'.o;refine aj.of (o:=⟨.normal,wR (n:Nat) (k:Nat) (i+1),E5⟩) ?_ (.inl ⟨rfl,n-(i+1),by omega,oa5,s5,i+1,by omega,rfl,rfl,v1,fun a ha=>v3.same a (hm' a ha),v2.1,?_,?_⟩)
  .rw [show decide (i<n)=true by simp[hin.1],hin.2]at h6;apply Run.seq (fr':=wR (n:Nat) (k:Nat) i++[(114,.bool true)]) (H':=E')
   .apply Run.seq (piece h6 _ rfl);refine⟨0,?_⟩;simp only[wR];simp[-getElem?_pos,go_sem]
   apply Run.seq (fr':=wR (n:Nat) (k:Nat) i) (H':=E5)
   .apply Run.block
    .exact piece hr8 _ rfl
    .simp
   .have w:IntKind.i64.wrap ((i:Int)+1)=((i+1:Nat):Int):=by rw[wrap_i64 (by omega) (by omega)];omega
    simp only[wR];apply Pe;simp[-getElem?_pos,go_sem,w,ak]
  .intro he5;obtain⟨_,hok⟩:=v2.fine he5;obtain⟨_,_,⟨x,hx⟩,_⟩:=hup _ _ _ hok hs'.1;rw[hx,axR];have:=hk' hin.2;omega
  .have:n-i=(n-(i+1))+1:=by omega
   rw[this]at hC;exact Cnt.step (m:=zD mo k) (k:=fun _=>tH (zD mo k) (n-(i+1))) hC v2
 .refine aj.of (o:=⟨.exit 0,wR (n:Nat) (k:Nat) i++[(114,.bool false)],E'⟩) ?_ (.inr ⟨by simp,rfl,s',oa',hV,hm',?_⟩)
  .have hd:(decide (i<n)&&(s'.e==0))=false:=by
    by_cases h1:i<n
    .have:¬ s'.e=0:=fun h=>hin ⟨h1,h⟩;simp[this]
    .simp [h1]
   rw[hd]at h6;apply Run.bK
   .apply Run.seq (piece h6 _ rfl);refine⟨0,?_⟩;simp only[wR];simp[-getElem?_pos,go_sem]
   .simp
  .refine hC _ () ?_;by_cases h1:s'.e=0
   .have:n-i=0:=by have:¬ i<n:=fun h=>hin ⟨h,h1⟩;omega
    rw[this];exact dV.ret hs' fun _=>rfl
   .exact dV.stop hs' h1
def Oq{m cd sy:Nat}{dl:List Int}{E:AM.Heap}(h:IrV c b mo t E 0 oa s)(hs:ji b mo s)(hb:b.length<=100000)(hm:mo<=1000000)(QT:257<=sy)(hsy:sy<=100000)(hl:dl.length<9223372036854775808):∃ code,Try.f87.body=some code /\
 aj (jO fun fr E'=>∃ s' oa',IrV c b mo t E' 0 oa' s'/\(∀ x,oa=some x->oa'=some x)/\dV b mo (ED b mo dl sy) () s s' ()) X (evT X) 87 m code [(0,.ptr 0 0 0 0),(1,.int .i64 (sy:Nat)),(2,.ro cd (.pi .i64 dl) 3)] E:=by
 refine⟨_,rfl,?_⟩;apply aj.seq (piece aiz _ rfl);have hV0:IrV c b mo t (E++[some Oo]) 0 oa s:=h.cat;have hj:(E++[some Oo])[E.length]?=some (some Oo):=by simp
 have hj0:E.length≠0:=by have:=h.lt.1;omega
 have hja:∀ a,oa=some a->E.length≠a:=fun a ha=>by have:=h.lt.2 a ha;omega
 have w1:IntKind.i64.wrap ((sy:Int)-257)=((sy-257:Nat):Int):=by rw[wrap_i64 (by omega) (by omega)];omega
 generalize hEj:E++[some Oo]=E0 at *;generalize E.length=j at *;by_cases Zh:286<=sy
 .have hI:(29:Int)<=((sy-257:Nat):Int):=by omega
  obtain⟨E1,oa1,k1,k2,k3⟩:=rX (e:=5) hV0;refine⟨⟨.ret,[],E1⟩,⟨.inr rfl,_,oa1,k2,k3.same,?_⟩,?_⟩
  .unfold ED;rw[if_pos Zh];exact dV.bad hs (by simp)
  .generalize sy-257=q at *;apply Pe;simp[-getElem?_pos,go_sem,w1,hI,k1]
 have ac1:sy<286:=by omega
 have hC:Cnt b mo (fC (iw b (EC sy)) fun x=>fC (wL b dl) fun d=>if 30<=d then uy 5 else fC (iw b (nG d)) fun y=>PN mo (uT d+y.toNat) (CQ sy+x).toNat) () s (ED b mo dl sy) () s (fun u=>u):=by intro s2 y hy;unfold ED;rw[if_neg Zh];exact hy
 apply aj.seq (fr':=[(0,.ptr 0 0 0 0),(1,.int .i64 (sy:Nat)),(2,.ro cd (.pi .i64 dl) 3),(6,.ptr j 0 0 0),(44,.bool false)]) (H':=E0)
 .have hI:¬ (29:Int)<=((sy-257:Nat):Int):=by omega
  generalize sy-257=q at *;apply Pe;simp[-getElem?_pos,go_sem,w1,hI]
 obtain⟨E1,oa1,s1,x,v1,r1,k1,hr1⟩:=aiA (m:=m) (cd:=cd) (dl:=dl) (d:=false) hV0 hs hb QT ac1 hj hj0 hja;have hC1:=hC.step r1;obtain⟨hb3,hb4,hb5⟩:=TK QT ac1;obtain⟨xa,xb⟩:=ny r1 hs;have hp:2 ^ EC sy<=2 ^ 5:=ayo (by omega) hb5;obtain⟨n,hn⟩:∃ n:Nat,CQ sy+x=(n:Int):=⟨(CQ sy+x).toNat,by omega⟩;rw[hn]at hr1;simp only[hn,ayA]at hC1;apply aj.seq (piece hr1 _ rfl);obtain⟨E2,oa2,s2,d,h2,v2,r2,k2⟩:=JB (a:=.ro cd (.pi .i64 dl) 3) (l:=dl) v1 r1.1 hb rfl (fun x hx=>by cases hx) hl;have hC2:=hC1.step r2;apply aj.seq (fr':=BM (n:Nat) d) (H':=E2)
 .simp only[BM];apply Pe;simp[-getElem?_pos,go_sem,h2,ak]
 apply aj.assoc;apply aj.seq (piece (aiB (m:=m) v2) _ rfl);have hsm:∀ a,oa=some a->oa2=some a:=fun a ha=>k2.same a (k1.same a ha);by_cases he2:¬ s2.e=0
 .have heb:(s2.e != 0)=true:=by simpa using he2
  refine⟨⟨.ret,BM (n:Nat) d++[(67,.bool true)],E2⟩,⟨.inr rfl,s2,oa2,v2,hsm,hC2 _ () (dV.stop r2.1 he2)⟩,?_⟩;rw[heb];refine⟨0,?_⟩;simp only[BM];simp[-getElem?_pos,go_sem]
 have he2:s2.e=0:=Classical.not_not.1 he2;apply aj.seq (fr':=BM (n:Nat) d++[(67,.bool false)]) (H':=E2)
 .rw [he2];refine⟨0,?_⟩;simp only[BM];simp[-getElem?_pos,go_sem]
 by_cases h30:30<=d
 .have hI:(30:Int)<=((d:Nat):Int):=by omega
  obtain⟨E3,oa3,g1,g2,g3⟩:=rX (e:=5) v2;rw[if_pos h30]at hC2;refine⟨⟨.ret,[],E3⟩,⟨.inr rfl,_,oa3,g2,fun a ha=>g3.same a (hsm a ha),hC2 _ () (dV.bad r2.1 (by simp))⟩,?_⟩;simp only[BM];apply Pe;simp[-getElem?_pos,go_sem,hI,g1]
 have aiC:d<30:=by omega
 rw[if_neg h30]at hC2;apply aj.seq (fr':=BM (n:Nat) d++[(69,.bool false)]) (H':=E2)
 .have hI:¬ (30:Int)<=((d:Nat):Int):=by omega
  simp only[BM];apply Pe;simp[-getElem?_pos,go_sem,hI]
 apply aj.seq (fr':=[(0,.ptr 0 0 0 0),(7,.int .i64 (n:Nat)),(8,.int .i64 (d:Nat)),(9,.int .i64 ((1+d:Nat):Int))]) (H':=E2)
 .have w:IntKind.i64.wrap (1+(d:Int))=((1+d:Nat):Int):=by rw[wrap_i64 (by omega) (by omega)];omega
  simp only[BM];generalize 1 + d=q at *;apply Pe;simp[-getElem?_pos,go_sem,w,ak]
 obtain⟨E3,oa3,s3,y,v3,r3,k3,aix,hcode3,fr3,hr3,hf3⟩:=abE (m:=m) (n:=(n:Nat)) v2 r2.1 hb aiC;have hC3:=hC2.step r3;simp only[ayA]at hC3;apply aj.seq (fr':=fr3) (H':=E3)
 .exact (axN hcode3) ▸ hr3
 have aeA:∀ a,oa=some a->oa3=some a:=fun a ha=>k3.same a (hsm a ha);have hk1:1<=uT d+y:=by have:=(TL aiC).1;omega
 generalize hk:uT d + y=k at *;have g0:aB fr3 0=.ptr 0 0 0 0:=by have:=congrArg (fun f=>aB f 0) hf3;simpa[dF,xZ,aB]using this
 have g7:aB fr3 7=.int .i64 (n:Nat):=by have:=congrArg (fun f=>aB f 7) hf3;simpa[dF,xZ,aB]using this
 have g9:aB fr3 9=.int .i64 (k:Nat):=by have:=congrArg (fun f=>aB f 9) hf3;simpa[dF,xZ,aB]using this
 apply aj.assoc;apply aj.seq (piece (aex (m:=m) g0 g7 g9 v3) _ rfl)
 -- may it be?
 have hP:∃ E4 oa4 s4,IrV c b mo t E4 0 oa4 s4/\(∀ x,oa=some x->oa4=some x)/\Cnt b mo (tH (zD mo k) n) () s4 (ED b mo dl sy) () s (fun u=>u)/\ji b mo s4/\(s4.e=0->k<=s4.o.length) /\
  ∃ code,Try.f87.body.bind (ay [1,1,1,1,1,1,1,1,0,1])=some code/\∃ fr,Run X (evT X) 87 m code (xZ (n:Nat) (k:Nat)++[(102,.bool (s3.e==0&&decide (s3.o.length<k)))]) E3 ⟨.normal,fr,E4⟩/\aB fr 0=.ptr 0 0 0 0/\aB fr 7=.int .i64 (n:Nat)/\aB fr 9=.int .i64 (k:Nat):=by
  by_cases he3:s3.e=0
  .by_cases hlk:s3.o.length<k
   .obtain ⟨E4,oa4,q1,q2,q3⟩:=rX (e:=5) v3;have hf:(lD s3 5).e≠0:=by unfold lD;rw[if_pos he3];simp
    refine⟨E4,oa4,_,q2,fun a ha=>q3.same a (aeA a ha),?_,Zi r3.1,fun h=>absurd h hf,_,rfl,xZ (n:Nat) (k:Nat),?_,rfl,rfl,rfl⟩
    .intro s5 u hu;obtain⟨rfl,rfl⟩:=hu.stopped hf;refine hC3 _ () ?_;unfold lD;rw[if_pos he3];exact dV.FM (e:=5) ⟨r3.1.1,r3.1.2⟩ he3 (by unfold PN;rw[if_pos hlk]) rfl (by simp)
    .rw [he3,decide_eq_true hlk];refine Run.cond (d:=true) rfl ?_;simp only[xZ];apply Pe;simp[-getElem?_pos,go_sem,q1]
   .refine ⟨E3,oa3,s3,v3,aeA,?_,r3.1,fun _=>by omega,_,rfl,xZ (n:Nat) (k:Nat)++[(102,.bool false)],?_,rfl,rfl,rfl⟩
    .intro s5 u hu;refine hC3 _ _ ⟨hu.1,?_⟩;have h2:=hu.2;rw[if_pos he3]at h2 ⊢;unfold PN;rw[if_neg hlk];exact h2
    .rw [he3,decide_eq_false hlk];exact Run.cond (d:=false) rfl ⟨0,rfl⟩
  .refine ⟨E3,oa3,s3,v3,aeA,?_,r3.1,fun h=>absurd h he3,_,rfl,xZ (n:Nat) (k:Nat)++[(102,.bool false)],?_,rfl,rfl,rfl⟩
   .intro s5 u hu;obtain⟨rfl,rfl⟩:=hu.stopped he3;exact hC3 _ () (dV.stop r3.1 he3)
   .rw [show(s3.e==0)=false by simpa using he3,azb];exact Run.cond (d:=false) rfl ⟨0,rfl⟩
 obtain⟨E4,oa4,s4,v4,asf,hC4,hs4,hk4,av2,aeB,fr4,hr4,f0,f7,f9⟩:=hP;apply aj.seq (fr':=fr4) (H':=E4)
 .exact (axN aeB) ▸ hr4
 apply aj.seq (fr':=wR (n:Nat) (k:Nat) 0) (H':=E4)
 .simp only[wR];apply Pe;simp[-getElem?_pos,go_sem,f0,f7,f9,ak]
 have hL:=abG (m:=m) (n:=n) (k:=k) v4 hs4 hm (by omega) hk1 hk4;refine(piece hL _ rfl).mono ?_;rintro out ⟨ho1,s5,oa5,p1,p2,p3⟩;exact⟨.inl ho1,s5,oa5,p1,fun a ha=>p2 a (asf a ha),hC4 _ () p3⟩
def Vo{sy:Nat}{dl:List Int}{a:AV}(h:IrV c b mo t H o oa s)(hs:ji b mo s)(hb:b.length<=100000)(hm:mo<=1000000)(QT:257<=sy)(hsy:sy<=100000)(ha:fJ H a=some (.pi .i64 dl))(hd:∀ x∈slO a,x≠o/\∀ y,oa=some y->x≠y)(hl:dl.length<9223372036854775808) :
 ∃ H' oa' s',evT X 87 [.ptr o 0 0 0,.int .i64 (sy:Nat),a] H=some (.tup [],H')/\IrV c b mo t H' o oa' s'/\dV b mo (ED b mo dl sy) () s s' ()/\Kpt H H' o oa oa':=by
 obtain⟨code,hc⟩:∃ code,Try.f87.body=some code:=⟨_,rfl⟩;obtain⟨H',oa',s',a,h1,h2,h3,h4⟩:=DI (f:=87) (n:=4) (xs:=[.int .i64 (sy:Nat),a]) (ys:=[.int .i64 (sy:Nat),.ro (qK H a) (.pi .i64 dl) 3]) (m:=ED b mo dl sy) (d:=()) (v:=fun _=>[]) Try.func87 hc rfl h (fun π K hπ=>gG.flat rfl rfl (gG.Wn rfl ha rfl (by
  rw[hπ];refine iT.2 ?_;intro x hx hx2;obtain⟨h1,h2⟩:=hd x hx;rcases ax2.1 hx2 with h3|h3
  .exact h1 h3
  .exact h2 x (by simpa using h3) rfl) gG.nil)) rfl rfl (by simp[dA]) (fun _=>⟨rfl,rfl,rfl⟩) (by
  intro mm E oa1 hE;obtain⟨code,hc,ht⟩:=Oq (m:=mm) (cd:=qK H a) hE hs hb hm QT hsy hl;refine⟨code,hc,?_⟩;rw[agE];refine ht.mono fun o ho=>⟨ho.1,?_⟩;obtain⟨s',oa',q1,q2,q3⟩:=ho.2;exact⟨s',oa',(),rfl,q1,q2,q3⟩)
 exact⟨H',oa',s',h1,h2,h3,h4⟩
end
def Ot(i x:Int):∀ (l cs:List Int) (j0 j:Nat),jR i x l cs j0=some j->j<j0+l.length
 | [],_,_,_,h=>by simp[jR]at h
 | _::_,[],_,_,h=>by simp[jR]at h
 | y::l,z::cs,j0,j,h=>by
  unfold jR at h;split at h
  .have:=axN h;simp;omega
  .have:=Ot i x l cs (j0+1) j h;simp;omega
def Zj{b:List UInt8}{l codes:List Int}:∀ {f i:Nat} {x:Int} {k k1 j:Nat} {o o1:List UInt8},decP b l codes f i x k o=.ok j k1 o1->k<k1/\o1=o/\j<l.length
 | 0,_,_,_,_,_,_,_,h=>by cases h
 | f+1,i,x,k,k1,j,o,o1,h=>by
  unfold decP at h;obtain⟨y,k2,o2,h1,h2⟩:=kW h;unfold wX at h1;split at h1
  .obtain ⟨rfl,rfl,rfl⟩:=jC h1;cases hf:jR i (2*x+iU b k) l codes 0 with
   | some j2=>
    rw[hf]at h2;obtain⟨rfl,rfl,rfl⟩:=jC h2;have:=Ot _ _ _ _ _ _ hf;exact⟨by omega,rfl,by omega⟩
   | none=>
    rw[hf]at h2;obtain⟨e1,e2,e3⟩:=Zj h2;exact⟨by omega,e2,e3⟩
  .cases h1
def aeC{b:List UInt8}{l:List Int}{k k1 j:Nat}{o o1:List UInt8}(h:wL b l k o=.ok j k1 o1):k<k1/\o1=o/\j<l.length/\(iQ l).2=0:=by
 unfold wL at h;split at h
 .rename_i he;obtain⟨e1,e2,e3⟩:=Zj h;exact⟨e1,e2,e3,he⟩
 .cases h
section
variable {c:Nat}{b:List UInt8}{mo:Int}{t:Nat}{H:AM.Heap}{o:Nat}{oa:Option Nat}{s:Is}
def nK(cl cd:Nat)(ll dl:List Int):AM.Frame:=[(0,.ptr 0 0 0 0),(1,.ro cl (.pi .i64 ll) 2),(2,.ro cd (.pi .i64 dl) 3)]
def aiD{m cl cd:Nat}{ll dl:List Int}{E:AM.Heap}(h:IrV c b mo t E 0 oa s):∃ code,Try.f82.body.bind (ay [0,0,0,0])=some code/\Run X (evT X) 82 m code (nK cl cd ll dl) E ⟨.normal,nK cl cd ll dl++[(11,.bool (s.e==0))],E⟩:=by
 refine⟨_,rfl,?_⟩;obtain⟨⟨vo,τ1,τ,a1,a2,h0,ho⟩,hne⟩:=id h;simp only[fU]at h0;by_cases he:s.e=0
 .rw [he]at h0 ⊢;simp only[nK];apply Pe;simp[-getElem?_pos,go_sem,h0]
 .have heb:(s.e==0)=false:=by simpa using he
  simp only[nK];apply Pe;simp[-getElem?_pos,go_sem,h0,he,heb]
def aiE{m cl cd j:Nat}{ll dl:List Int}{E:AM.Heap}(h:IrV c b mo t E 0 oa s):∃ code,Try.f82.body.bind (ay [0,0,1,0,1,0,0])=some code/\Run X (evT X) 82 m code (nK cl cd ll dl++[(6,.int .i64 (j:Nat))]) E ⟨.normal,nK cl cd ll dl++[(6,.int .i64 (j:Nat)),(19,.bool (s.e != 0||j==256))],E⟩:=by
 refine⟨_,rfl,?_⟩;obtain⟨⟨vo,τ1,τ,a1,a2,h0,ho⟩,hne⟩:=id h;simp only[fU]at h0;by_cases he:s.e=0
 .rw [he]at h0 ⊢;by_cases hj:j=256
  .subst hj;simp only[nK];apply Pe;simp[-getElem?_pos,go_sem,h0]
  .have h1:(j==256)=false:=by simpa using hj
   have h2:((j:Int)==256)=false:=by simp;omega
   have h3:¬ ((j:Int)=256):=by omega
   rw[h1];simp only[nK];apply Pe;simp[-getElem?_pos,go_sem,h0,h2,h3]
 .have heb:(s.e != 0)=true:=by simpa using he
  rw[heb];simp only[nK];apply Pe;simp[-getElem?_pos,go_sem,h0,he,heb]
def QU{m cl cd F:Nat}{ll dl:List Int}{E:AM.Heap}(h:IrV c b mo t E 0 oa s)(hs:ji b mo s)(hb:b.length<=100000)(hm:mo<=1000000)(hF:8*b.length<F)(hl:ll.length<9223372036854775808)(hl2:dl.length<9223372036854775808):∃ code,Try.f82.body=some code /\
 aj (jO fun fr E'=>∃ s' oa',IrV c b mo t E' 0 oa' s'/\(∀ x,oa=some x->oa'=some x)/\dV b mo (uz b mo ll dl F) () s s' ()) X (evT X) 82 m code (nK cl cd ll dl) E:=by
 refine⟨_,rfl,?_⟩;refine aj.mono (Q:=Or2 (fun fr E'=>∃ s' oa',IrV c b mo t E' 0 oa' s'/\(∀ x,oa=some x->oa'=some x)/\dV b mo (uz b mo ll dl F) () s s' ()) (fun o=>o.ex=.ret/\∃ s' oa',IrV c b mo t o.H 0 oa' s'/\(∀ x,oa=some x->oa'=some x)/\dV b mo (uz b mo ll dl F) () s s' ())) ?_ (by
  rintro out (⟨h1,h2⟩|⟨_,h1,h2⟩)
  .exact ⟨.inl h1,h2⟩
  .exact ⟨.inr h1,h2⟩)
 apply aj.AY;refine aj.jP (I:=fun q fr E'=>∃ oa' s',q=(if s'.e=0 then 8*b.length-s'.k+1 else 0)/\fr=nK cl cd ll dl/\IrV c b mo t E' 0 oa' s'/\(∀ a,oa=some a->oa'=some a)/\ji b mo s'/\∃ f,(s'.e=0->8*b.length<f+s'.k)/\Cnt b mo (uz b mo ll dl f) () s' (uz b mo ll dl F) () s (fun u=>u)) ?_ (k:=if s.e=0 then 8*b.length-s.k+1 else 0) ⟨oa,s,rfl,rfl,h,fun _ h=>h,hs,F,fun _=>by omega,fun _ _ h=>h⟩;rintro q fr E' ⟨oa',s',rfl,rfl,hV,hm',hs',f,hf,hC⟩;have h0:=aiD (m:=m) (cl:=cl) (cd:=cd) (ll:=ll) (dl:=dl) hV;by_cases he:¬ s'.e=0
 .refine aj.of (o:=⟨.exit 0,nK cl cd ll dl++[(11,.bool false)],E'⟩) ?_ (.inr ⟨by simp,.inl ⟨rfl,s',oa',hV,hm',hC _ () (dV.stop hs' he)⟩⟩);rw[show(s'.e==0)=false by simpa using he]at h0;apply Run.bK
  .apply Run.seq (piece h0 _ rfl);refine⟨0,?_⟩;simp only[nK];simp[-getElem?_pos,go_sem]
  .simp
 have he:s'.e=0:=Classical.not_not.1 he;rw[he]at h0;obtain⟨f,rfl⟩:∃ f',f=f'+1:=⟨f-1,by have:=hs'.1;have:=hf he;omega⟩;apply aj.seq (fr':=nK cl cd ll dl++[(11,.bool true)]) (H':=E')
 .apply Run.seq (piece h0 _ rfl);refine⟨0,?_⟩;simp only[nK];simp[-getElem?_pos,go_sem]
 obtain⟨E2,oa2,s2,j,h2,v2,r2,k2⟩:=JB (a:=.ro cl (.pi .i64 ll) 2) (l:=ll) hV hs' hb rfl (fun x hx=>by cases hx) hl;have hC2:=hC.step r2;have hsm:∀ a,oa=some a->oa2=some a:=fun a ha=>k2.same a (hm' a ha);have h3:=aiE (m:=m) (cl:=cl) (cd:=cd) (j:=j) (ll:=ll) (dl:=dl) v2;by_cases hret:¬ s2.e=0\/j=256
 .-- it is over
  refine aj.of (o:=⟨.ret,nK cl cd ll dl++[(6,.int .i64 (j:Nat)),(19,.bool true)],E2⟩) ?_ (.inr ⟨by simp,.inr ⟨rfl,rfl,s2,oa2,v2,hsm,?_⟩⟩)
  .rw [show(s2.e != 0||j==256)=true by
    rcases hret with h|h
    .rw [show(s2.e != 0)=true by simpa using h];rfl
    .rw [h];simp]at h3
   apply Run.block
   .apply Run.seq (fr':=nK cl cd ll dl++[(6,.int .i64 (j:Nat))]) (H':=E2)
    .simp only[nK];apply Pe;simp[-getElem?_pos,go_sem,h2,ak]
    apply Run.block
    .apply Run.seq (piece h3 _ rfl);refine⟨0,?_⟩;simp only[nK];simp[-getElem?_pos,go_sem]
    .simp
   .simp
  .refine hC2 _ () ?_;by_cases h4:s2.e=0
   .have hj:j=256:=by
     rcases hret with h|h
     .exact absurd h4 h
     .exact h
    rw[if_pos hj];exact dV.ret r2.1 fun _=>rfl
   .exact dV.stop r2.1 h4
 have he2:s2.e=0:=Classical.not_not.1 fun h=>hret (.inl h);have hj:¬ j=256:=fun h=>hret (.inr h);rw[if_neg hj]at hC2;obtain⟨_,hok⟩:=r2.fine he2;obtain⟨hk1,_,hjl,hrc⟩:=aeC hok;have av3:j<320:=by have:=(x9 hrc).1;omega
 rw[he2,show(j==256)=false by simpa using hj]at h3;have htail:∀ (E3:AM.Heap) (fr3:AM.Frame),(∃ code,Try.f82.body.bind (ay [0,0,1,0,1,0,1,1])=some code/\Run X (evT X) 82 m code (nK cl cd ll dl++[(6,.int .i64 (j:Nat)),(19,.bool false)]) E2 ⟨.normal,nK cl cd ll dl,E3⟩)->∃ code,Try.f82.body.bind (ay [0,0,1])=some code/\Run X (evT X) 82 m code (nK cl cd ll dl++[(11,.bool true)]) E' ⟨.normal,nK cl cd ll dl,E3⟩:=by
  intro E3 fr3 hh;refine⟨_,rfl,?_⟩;apply Run.block
  .apply Run.seq (fr':=nK cl cd ll dl++[(6,.int .i64 (j:Nat))]) (H':=E2)
   .simp only[nK];apply Pe;simp[-getElem?_pos,go_sem,h2,ak]
   apply Run.block
   .apply Run.seq (piece h3 _ rfl);refine Run.cond (d:=false) (by simp[nK,aJ,aB]) ?_;exact piece hh _ rfl
   .simp
  .simp
 by_cases h256:j<256
 .rw [if_pos h256]at hC2;obtain⟨E3,oa3,s3,g1,g2,g3,g4⟩:=LD (y:=UInt8.ofNat j) v2 r2.1 hm;have hC3:=hC2.step g3;have hup:=(EU (UInt8.ofNat j)).up b mo s2.k s2.o;refine aj.of (o:=⟨.normal,nK cl cd ll dl,E3⟩) ?_ (.inl ⟨rfl,_,?_,oa3,s3,rfl,rfl,g2,fun a ha=>g4.same a (hsm a ha),g3.1,f,?_,hC3⟩)
  .refine piece (htail E3 [] ⟨_,rfl,?_⟩) _ rfl;have hy:(((UInt8.ofNat j).toNat:Nat):Int)=(j:Int):=by rw[ayU,ayN (by omega)]
   rw[hy]at g1;have hI:(j:Int)<256:=by omega
   have w:IntKind.u8.wrap (j:Int)=(j:Int):=wrap_u8 (by omega) (by omega);simp only[nK];apply Pe;simp[-getElem?_pos,go_sem,hI,w,g1,ak]
  .rw [if_pos he];split
   .rename_i he3;obtain⟨_,QW⟩:=g3.fine he3;have:=(hup _ _ _ QW r2.1.1).1;have:=g3.1.1;omega
   .omega
  .intro he3;obtain⟨_,QW⟩:=g3.fine he3;have:=(hup _ _ _ QW r2.1.1).1;have:=hf he;omega
 .rw [if_neg h256]at hC2;obtain⟨E3,oa3,s3,g1,g2,g3,g4⟩:=Vo (sy:=j) (a:=.ro cd (.pi .i64 dl) 3) (dl:=dl) v2 r2.1 hb hm (by omega) (by omega) rfl (fun x hx=>by cases hx) hl2;have hC3:=hC2.step g3;have hup:=(Si dl j).up b mo s2.k s2.o;refine aj.of (o:=⟨.normal,nK cl cd ll dl,E3⟩) ?_ (.inl ⟨rfl,_,?_,oa3,s3,rfl,rfl,g2,fun a ha=>g4.same a (hsm a ha),g3.1,f,?_,hC3⟩)
  .refine piece (htail E3 [] ⟨_,rfl,?_⟩) _ rfl;have hI:¬ (j:Int)<256:=by omega
   simp only[nK];apply Pe;simp[-getElem?_pos,go_sem,hI,g1,ak]
  .rw [if_pos he];split
   .rename_i he3;obtain⟨_,QW⟩:=g3.fine he3;have:=(hup _ _ _ QW r2.1.1).1;have:=g3.1.1;omega
   .omega
  .intro he3;obtain⟨_,QW⟩:=g3.fine he3;have:=(hup _ _ _ QW r2.1.1).1;have:=hf he;omega
def Y0{F:Nat}{ll dl:List Int}{a a2:AV}(h:IrV c b mo t H o oa s)(hs:ji b mo s)(hb:b.length<=100000)(hm:mo<=1000000)(hF:8*b.length<F)(ha:fJ H a=some (.pi .i64 ll))(hd:∀ x∈slO a,x≠o/\∀ y,oa=some y->x≠y)(ha2:fJ H a2=some (.pi .i64 dl))(hd2:∀ x∈slO a2,x≠o/\∀ y,oa=some y->x≠y)
 (hl:ll.length<9223372036854775808)(hl2:dl.length<9223372036854775808) :
 ∃ H' oa' s',evT X 82 [.ptr o 0 0 0,a,a2] H=some (.tup [],H')/\IrV c b mo t H' o oa' s'/\dV b mo (uz b mo ll dl F) () s s' ()/\Kpt H H' o oa oa':=by
 obtain⟨code,hc⟩:∃ code,Try.f82.body=some code:=⟨_,rfl⟩;have hdis:∀ x,(∀ y∈slO x,y≠o/\∀ z,oa=some z->y≠z)->disjoint (slO x) (o::oa.toList)=true:=by
  intro x hx;refine iT.2 ?_;intro y hy hy2;obtain⟨h1,h2⟩:=hx y hy;rcases ax2.1 hy2 with h3|h3
  .exact h1 h3
  .exact h2 y (by simpa using h3) rfl
 obtain⟨H',oa',s',_,h1,h2,h3,h4⟩:=DI (f:=82) (n:=4) (xs:=[a,a2]) (ys:=[.ro (qK H a) (.pi .i64 ll) 2,.ro (qK H a2) (.pi .i64 dl) 3]) (m:=uz b mo ll dl F) (d:=()) (v:=fun _=>[]) Try.func82 hc rfl h (fun π K hπ=>gG.Wn rfl ha rfl (by rw[hπ];exact hdis a hd) (gG.Wn rfl ha2 rfl (by rw[hπ];exact hdis a2 hd2) gG.nil)) rfl rfl (by simp[dA]) (fun _=>⟨rfl,rfl,rfl⟩) (by
  intro mm E oa1 hE;obtain⟨code,hc,ht⟩:=QU (m:=mm) (cl:=qK H a) (cd:=qK H a2) hE hs hb hm hF hl hl2;refine⟨code,hc,?_⟩;rw[agB];refine ht.mono fun o ho=>⟨ho.1,?_⟩;obtain⟨s',oa',q1,q2,q3⟩:=ho.2;exact⟨s',oa',(),rfl,q1,q2,q3⟩)
 exact⟨H',oa',s',h1,h2,h3,h4⟩
end
end Go.Proofs.Ytbodincpjijdiaa
