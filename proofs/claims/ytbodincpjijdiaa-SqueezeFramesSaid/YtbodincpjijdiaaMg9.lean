/- IP to EJ: texts of this claim, one behind the other; what each shows stands at its head. -/
import Derived.Test.YtbodincpjijdiaaAm4
import Derived.Test.YtbodincpjijdiaaMg8
set_option linter.defProp false
set_option linter.unusedSimpArgs false
set_option linter.unusedVariables false
set_option maxRecDepth 100000
set_option maxHeartbeats 8000000
namespace Go.Proofs.Ytbodincpjijdiaa
open Go.AM
def mO(b:List UInt8)(mo:Int){α:Type}(m:PM α)(s s':Is)(a:α):Prop :=
 ji b mo s'/\if s.e=0 then(match m s.k s.o with
  | .ok x k o=>s'=⟨k,o,0⟩/\a=x
  | .err e=>s'.e=e/\e≠0)else s'=s
section
variable {b:List UInt8}{mo:Int}{α β γ:Type}{s s1 s2:Is}
def dV.toE{m:PM α}{d x:α}(h:dV b mo m d s s1 x):mO b mo m s s1 x:=by
 refine⟨h.1,?_⟩;have h1:=h.2;by_cases he:s.e=0
 .rw [if_pos he]at h1 ⊢;cases hm:m s.k s.o with
  | ok a k o=>rw[hm]at h1;exact h1
  | err e=>rw[hm]at h1;exact⟨h1.1,h1.2.1⟩
 .rw [if_neg he]at h1 ⊢;exact h1.1
def mO.bnd{m:PM α}{f:α->PM β}{x:α}{y:β}(h:mO b mo m s s1 x)(h2:mO b mo (f x) s1 s2 y):mO b mo (fC m f) s s2 y:=by
 refine⟨h2.1,?_⟩;have h1:=h.2;have h3:=h2.2;by_cases he:s.e=0
 .rw [if_pos he]at h1 ⊢;unfold fC;cases hm:m s.k s.o with
  | ok a k o=>
   rw[hm]at h1;obtain⟨rfl,rfl⟩:=h1;simpa using h3
  | err e=>
   rw[hm]at h1;obtain⟨h4,h5⟩:=h1;rw[if_neg (by rw[h4];exact h5)]at h3;rw[h3];exact⟨h4,h5⟩
 .rw [if_neg he]at h1 ⊢;rw[h1]at h3;rw[if_neg he]at h3;exact h3
def mO.stop{m:PM α}{x:α}(hs:ji b mo s)(he:s.e≠0):mO b mo m s s x:=⟨hs,by rw[if_neg he]⟩
def mO.fine{m:PM α}{x:α}(h:mO b mo m s s1 x)(he:s1.e=0):s.e=0/\m s.k s.o=.ok x s1.k s1.o:=by
 have h1:=h.2;by_cases h0:s.e=0
 .rw [if_pos h0]at h1;cases hm:m s.k s.o with
  | ok a k o=>
   rw[hm]at h1;obtain⟨rfl,rfl⟩:=h1;exact⟨h0,rfl⟩
  | err e=>
   rw[hm]at h1;exact absurd (h1.1.symm.trans he) h1.2
 .rw [if_neg h0]at h1;exact absurd (h1 ▸ he) h0
def mO.any{m:PM α}{x y:α}(h:mO b mo m s s1 x)(he:s1.e≠0):mO b mo m s s1 y:=by
 refine⟨h.1,?_⟩;have h1:=h.2;by_cases h0:s.e=0
 .rw [if_pos h0]at h1 ⊢;cases hm:m s.k s.o with
  | ok a k o=>
   rw[hm]at h1;obtain⟨rfl,rfl⟩:=h1;exact absurd rfl he
  | err e=>rw[hm]at h1;exact h1
 .rw [if_neg h0]at h1 ⊢;exact h1
end
section
variable {c:Nat}{b:List UInt8}{mo:Int}{N t:Nat}{H:AM.Heap}{lb nb rb:Nat}{la oa:Option Nat}{acc:List Int}{s:Is}
def ahX(cl:Nat)(L:List Int)(rb nb lb:Nat):AM.Frame:=[(1,.ro cl (.pi .i64 L) 2),(3,.ptr rb 0 0 0),(5,.ptr nb 0 0 0),(7,.ptr lb 0 0 0),(8,.fn 92 [.ptr lb 0 0 0,.ptr nb 0 0 0,.ptr rb 0 0 0])]
end
section
variable {c:Nat}{b:List UInt8}{mo:Int}{N t:Nat}{H:AM.Heap}{lb nb rb:Nat}{la oa:Option Nat}{acc:List Int}{s:Is}
def LeF(cl:Nat)(L:List Int)(rb nb lb:Nat)(fr:AM.Frame):Prop:=aB fr 1=.ro cl (.pi .i64 L) 2/\aB fr 3=.ptr rb 0 0 0/\aB fr 5=.ptr nb 0 0 0/\aB fr 7=.ptr lb 0 0 0/\aB fr 8=.fn 92 [.ptr lb 0 0 0,.ptr nb 0 0 0,.ptr rb 0 0 0]
def LeF.of{cl:Nat}{L:List Int}{fr:AM.Frame}(h:dF [1,3,5,7,8] fr=ahX cl L rb nb lb):LeF cl L rb nb lb fr:=by
 simpa[dF,ahX,LeF]using h
end
section
variable {c:Nat}{b:List UInt8}{mo:Int}{N t:Nat}{H:AM.Heap}{o lb nb rb:Nat}{la oa:Option Nat}{acc:List Int}{s:Is}
end
section
variable {c:Nat}{b:List UInt8}{mo:Int}{N t:Nat}{H:AM.Heap}{o:Nat}{oa:Option Nat}{s:Is}
end
section
variable (cc:Nat)(l:List Int)
end
def Dh(l:List Int):AM.Obj:=⟨.pi .i64 l,0,.none,1,true,false,0⟩
def Yx:Row1:=⟨53,[],.tup [.sl 0 0 288 0,.sl 1 0 32 0],[some (Dh Au),some (Dh zF)]⟩
def Yy:lJ X (Yx::[]):=lJ.cons (Gh lJ.nil) lJ.nil (n:=400) (by kernel_rfl)
def aaZ(H:AM.Heap):evT X 53 [] H=some (.tup [.sl H.length 0 288 0,.sl (H.length+1) 0 32 0],H++[some (Dh Au),some (Dh zF)]):=by
 have:=dI (Ev1.frame (Yy Yx (ayb.2 rfl)).1 rfl H);simpa[Yx,dL,lI,ren,aQ,xu,Dh,bU,azH]using this
def Iu(b:List UInt8)(mo:Int){α β:Type}(m:PM α)(s1:Is)(m0:PM β)(s:Is)(f:α->β):Prop:=∀ s2 y,mO b mo m s1 s2 y->mO b mo m0 s s2 (f y)
def Iu.step{b:List UInt8}{mo:Int}{α β γ:Type}{m:PM γ}{k:γ->PM α}{s1 s2:Is}{m0:PM β}{s:Is}{f:α->β}{x:γ}(h:Iu b mo (fC m k) s1 m0 s f)(h2:mO b mo m s1 s2 x):Iu b mo (k x) s2 m0 s f:=fun _ _ h3=>h _ _ (h2.bnd h3)
section
variable {c:Nat}{b:List UInt8}{mo:Int}{t:Nat}{H:AM.Heap}{o:Nat}{oa:Option Nat}{s:Is}
end
section
variable {c:Nat}{b:List UInt8}{mo:Int}{t:Nat}{H:AM.Heap}{o:Nat}{oa:Option Nat}{s:Is}
def S9{E:AM.Heap}{a g τ off n:Nat}{ob:AM.Obj}{acc:List Int}(ha:E[a]?=some (some ob))(hw:RwT (.pi .i64 acc) g τ ob)(hn:off+n<=acc.length):fJ E (.sl a off n g)=some (.pi .i64 ((acc.drop off).take n)):=by
 simp[fJ,live,ha,hw.g,hw.ids,hw.p,gq,hn]
end
section
variable {c:Nat}{b:List UInt8}{mo:Int}{t:Nat}{H:AM.Heap}{o:Nat}{oa:Option Nat}{s:Is}
def kept{H H':AM.Heap}{oa oa':Option Nat}{j:Nat}(hk:Kpt H H' 0 oa oa')(hj:j<H.length)(h0:j≠0)(ha:∀ a,oa=some a->j≠a):H'[j]?=H[j]?/\∀ a,oa'=some a->j≠a:=by
 refine⟨hk.rest j hj h0 ha,fun a h=>?_⟩;cases hq:oa with
 | none=>have:=hk.new a hq h;omega
 | some z=>have:=hk.same z hq;rw[h]at this;cases this;exact ha _ hq
end
section
variable {c:Nat}{b:List UInt8}{mo:Int}{t:Nat}{H:AM.Heap}{o:Nat}{oa:Option Nat}{s:Is}
def Iu.done{m0:PM (List Int×List Int)}{α:Type}{m:PM α}{f:α->List Int×List Int}{s1:Is}(h:Iu b mo m s1 m0 s f)(hs:ji b mo s1)(he:s1.e≠0)(x:α)(y:List Int×List Int):mO b mo m0 s s1 y:=(h s1 x (mO.stop hs he)).any he
end
section
variable {c:Nat}{b:List UInt8}{mo:Int}{t:Nat}{H:AM.Heap}{o:Nat}{oa:Option Nat}{s:Is}
end
def mO.pure{α:Type}{b:List UInt8}{mo:Int}{s:Is}(g:Nat->List UInt8->α)(hs:ji b mo s):mO b mo (fun k o=>.ok (g k o) k o) s s (g s.k s.o):=by
 refine⟨hs,?_⟩;by_cases he:s.e=0
 .rw [if_pos he];exact⟨by rw[<- he],rfl⟩
 .rw [if_neg he]
def bkR(kind:Int)(last:Bool)(k:Nat)(n:Int):AV:=.pc [.int .i64 kind,.bool last,.int .i64 (k:Nat),.int .i64 n]
def bkO(kind:Int)(last:Bool)(k:Nat)(n:Int):AM.Obj:=⟨bkR kind last k n,0,some 4,1,false,true,0⟩
def bkT(x:Blk):AV:=bkR x.kind x.last x.k (x.n:Nat)
def LkV(H:AM.Heap)(la:Option Nat)(v:AV)(R:List AV):Prop:=(∀ p∈R,ids p=[]/\tags p=[])/\match la with
 | none=>R=[]/\v=.ro 0 .pn 0
 | some a=>∃ g ob,v=.sl a 0 R.length g/\H[a]?=some (some ob)/\Rw (.pr 4 R) g ob
def LkV.keep{H H':AM.Heap}{la:Option Nat}{v:AV}{R:List AV}(h:LkV H la v R)(hk:∀ a,la=some a->H'[a]?=H[a]?):LkV H' la v R:=by
 obtain⟨h0,h1⟩:=h;refine⟨h0,?_⟩;cases la with
 | none=>exact h1
 | some a=>
  obtain⟨g,ob,h2,h3,h4⟩:=h1;exact⟨g,ob,h2,by rw[hk a rfl];exact h3,h4⟩
def LkV.lt{H:AM.Heap}{la:Option Nat}{v:AV}{R:List AV}(h:LkV H la v R):∀ a,la=some a->a<H.length:=by
 rintro a rfl;obtain⟨_,g,ob,_,h3,_⟩:=h;exact eX h3
def LkV.app{H:AM.Heap}{la:Option Nat}{v:AV}{R:List AV}{kind:Int}{last:Bool}{k:Nat}{n:Int}(h:LkV H la v R)(hR:R.length<=10000000):∃ v' H' la',bG X H 107 v (.ro 1 (.pr 4 [bkR kind last k n]) 0)=some (v',H')/\LkV H' la' v' (R++[bkR kind last k n])/\H.length<=H'.length/\(∀ j,j<H.length->la≠some j->H'[j]?=H[j]?)/\(∀ a,la=some a->la'=some a)/\(la=none->la'=some H.length):=by
 obtain⟨hf,h⟩:=h;have hf':∀ p∈R++[bkR kind last k n],ids p=[]/\tags p=[]:=by
  intro p hp;rcases axV.1 hp with hp|hp
  .exact hf p hp
  .rw [ayb.1 hp];exact⟨rfl,rfl⟩
 cases la with
 | none=>
  obtain⟨rfl,rfl⟩:=h;refine⟨.sl H.length 0 1 0,H++[some ⟨.pr 4 [bkR kind last k n],0,none,0,true,false,0⟩],some H.length,?_,⟨hf',0,⟨.pr 4 [bkR kind last k n],0,none,0,true,false,0⟩,rfl,by simp,⟨rfl,rfl,rfl,rfl,rfl⟩⟩,by simp,fun j hj _=>axL hj,fun a h=>(by cases h),fun _=>rfl⟩;have hE:dh X 119=.pr 4 []:=by kernel_rfl
  simp only[bG,adv,aaB,adw];simp[gJ,jq,ah,kH,dQ,l9,hE,aS,bkR,aW,tags,bY]
 | some a=>
  obtain⟨g,ob,rfl,h3,h4⟩:=h;obtain⟨ob',hw',hA⟩:=Gl (C:=X) (T:=107) (e:=119) (es:=4) (H:=H) (o:=a) (m:=[bkR kind last k n]) (src:=.ro 1 (.pr 4 [bkR kind last k n]) 0) (by simp) (by simp) (by omega) (by simp) (by simp) h3 h4 rfl (by simp;omega);refine⟨_,_,some a,hA,⟨hf',g+1,ob',by simp,setAt h3,hw'⟩,by simp[AM.upd],fun j hj hne=>by unfold AM.upd;rw[axU (fun e=>hne (by rw[e]))],fun x h=>h,fun h=>by cases h⟩
section
variable {c:Nat}{b:List UInt8}{mo:Int}{t:Nat}{H:AM.Heap}{o:Nat}{oa:Option Nat}{s:Is}
def Kpt.Qj{E E1:AM.Heap}{oa1:Option Nat}{p:Nat}{x:Option AM.Obj}(h:Kpt E E1 0 oa oa1)(hp:E.length<=p):Kpt E (AM.upd E1 p x) 0 oa oa1 where
 len:=by have:=h.len;simpa[AM.upd]using this
 same:=h.same
 new:=h.new
 rest:=fun j hj h1 h2=>by unfold AM.upd;rw[axU (by omega)];exact h.rest j hj h1 h2
def Kpt.head{E r E1:AM.Heap}{oa1:Option Nat}(h:Kpt (E++r) E1 0 oa oa1):Kpt E E1 0 oa oa1:=(Kpt.cat r).trans h
def uZ(v:AV)(p n0:Nat):AM.Frame:=[(0,.ptr 0 0 0 0),(3,v),(5,.ptr p 0 0 0),(6,.int .i64 (n0:Nat))]
end
section
variable {c:Nat}{b:List UInt8}{mo:Int}{t:Nat}{H:AM.Heap}{o:Nat}{oa:Option Nat}{s:Is}
def adO{m p:Nat}{v:AV}{E:AM.Heap}(h:IrV c b mo t E 0 oa s):∃ code,Try.f71.body.bind (ay [1,1,0,1,0,0,1,0,1,0])=some code/\Run X (evT X) 71 m code [(0,.ptr 0 0 0 0),(3,v),(5,.ptr p 0 0 0)] E ⟨.normal,uZ v p s.o.length,E⟩:=by
 refine⟨_,rfl,?_⟩;obtain⟨⟨vo,τ1,τ,a1,a2,h0,ho⟩,hne⟩:=id h;simp only[fU]at h0;simp only[uZ];cases oa with
 | none=>
  obtain⟨h1,τ2,hτ2,rfl⟩:=ho;rw[h1];apply Pe;simp[-getElem?_pos,go_sem,h0,ak]
 | some a=>
  obtain⟨g,τ2,ob,hτ2,rfl,h3,h4⟩:=ho;have hg:=h4.g;generalize s.o.length=N at *;apply Pe;simp[-getElem?_pos,go_sem,h0,h3,hg,ak]
def aa0{m p n0 y k:Nat}{l:Bool}{v:AV}{E:AM.Heap}(h:IrV c b mo t E 0 oa s)(hp:E[p]?=some (some (bkO (y:Nat) l k 0)))(hn:n0<=100000000)(hs:s.o.length<=100000000):∃ code,Try.f71.body.bind (ay [1,1,0,1,0,0,1,0,1,1,1,1,1,1,0])=some code/\Run X (evT X) 71 m code (uZ v p n0) E ⟨.normal,[(0,.ptr 0 0 0 0),(3,v),(5,.ptr p 0 0 0)],AM.upd E p (some (bkO (y:Nat) l k ((s.o.length:Int)-(n0:Int))))⟩:=by
 refine⟨_,rfl,?_⟩;obtain⟨⟨vo,τ1,τ,a1,a2,h0,ho⟩,hne⟩:=id h;simp only[fU]at h0;simp only[uZ,bkO,bkR]at hp ⊢;have w:IntKind.i64.wrap ((s.o.length:Int)-(n0:Int))=(s.o.length:Int)-(n0:Int):=by rw[wrap_i64 (by omega) (by omega)]
 cases oa with
 | none=>
  obtain⟨h1,τ2,hτ2,rfl⟩:=ho;rw[h1]at w ⊢;have w':IntKind.i64.wrap (-(n0:Int))=-(n0:Int):=by simpa using w
  apply Pe;simp[-getElem?_pos,go_sem,h0,hp,w']
 | some a=>
  obtain⟨g,τ2,ob,hτ2,rfl,h3,h4⟩:=ho;have hg:=h4.g;generalize s.o.length=N at *;apply Pe;simp[-getElem?_pos,go_sem,h0,h3,hg,hp,w]
def arH:Qk X 6 119=true:=by kernel_rfl
def arI(k:Int):lH X 119 [(2,.int .i64 k)]=some (.agg (.pc [.int .i64 0,.bool false,.int .i64 k,.int .i64 0])):=by kernel_rfl
def arJ(l:List AV):nV X 119 l=some (.pc l):=by kernel_rfl
def arK(H:AM.Heap)(y n:Int)(l:Bool)(k:Nat):bT X H 107 1 [(0,.agg (.pc [.int .i64 y,.bool l,.int .i64 (k:Nat),.int .i64 n]))]=some (.ro 1 (.pr 4 [.pc [.int .i64 y,.bool l,.int .i64 (k:Nat),.int .i64 n]]) 0,H):=by kernel_rfl
def adP{m p k:Nat}{y n:Int}{l:Bool}{v v':AV}{E E':AM.Heap}{la':Option Nat}{R:List AV}(hp:E[p]?=some (some (bkO y l k n)))(hA:bG X E 107 v (.ro 1 (.pr 4 [bkR y l k n]) 0)=some (v',E'))(hk:E'[p]?=E[p]?)(hpv:p∉ids v)(hv':LkV E' la' v' (R++[bkR y l k n])) :
 ∃ code,Try.f71.body.bind (ay [1,1,0,1,0,0,1,0,1,1,1,1,1,1,1])=some code/\Run X (evT X) 71 m code [(0,.ptr 0 0 0 0),(3,v),(5,.ptr p 0 0 0)] E ⟨.normal,[(0,.ptr 0 0 0 0),(3,v'),(4,.bool l)],E'⟩:=by
 refine⟨_,rfl,?_⟩;have hpl:=eX hp;rw[<- hk]at hp;have hp0:=hp;rw[hk]at hp0;simp only[bkO,bkR]at hp hp0 hA;cases la' with
 | none=>exact absurd hv'.2.1 (by simp)
 | some a=>
  obtain⟨_,g,ob,rfl,_⟩:=hv';generalize (R++[bkR y l k n]).length=N at *;apply Run.dy (by simp) Uy (by simp)
  ·(conv=>lhs;simp[-getElem?_pos,go_sem,jX,out1,dw,nS,jY,pushes,kK,iP,touched,mentioned,jr,gK,dM,nT,Op.operands,ids,aC,aH,dY,dS,iC,lN,hp,hp0,hA,ak,kL,arJ,arK,nZ,retag])
  .refine kM (ps:=[(0,1),(0,2),(0,4),(1,4),(2,4),(3,4),(0,5),(1,5),(2,5),(3,5),(4,6),(5,6)]) (by kernel_rfl) ?_;simp[y7,bear,disjoint,oZ,Call.operands,aJ,aB,aC,ids,kL,arH,hpv,hpl]
  .rfl
def LkV.off{E:AM.Heap}{la:Option Nat}{v:AV}{R:List AV}{p:Nat}(h:LkV E la v R)(hp:la≠some p):p∉ids v:=by
 cases la with
 | none=>
  obtain⟨_,_,rfl⟩:=h;simp[ids]
 | some a=>
  obtain⟨_,g,ob,rfl,_⟩:=h;simp[ids];exact fun e=>hp (by rw[e])
end
section
variable {c:Nat}{b:List UInt8}{mo:Int}{t:Nat}{H:AM.Heap}{o:Nat}{oa:Option Nat}{s:Is}
def Yz(v:AV)(l:Bool):AM.Frame:=[(0,.ptr 0 0 0 0),(3,v),(4,.bool l)]
def ahY{m:Nat}{v:AV}{l:Bool}{E:AM.Heap}(h:IrV c b mo t E 0 oa s):∃ code,Try.f71.body.bind (ay [1,1,0,1,0,0,0,0])=some code/\Run X (evT X) 71 m code (Yz v l) E ⟨.normal,[(0,.ptr 0 0 0 0),(3,v),(17,.bool (!l&&(s.e==0)))],E⟩:=by
 refine⟨_,rfl,?_⟩;obtain⟨⟨vo,τ1,τ,a1,a2,h0,ho⟩,hne⟩:=id h;simp only[fU]at h0;simp only[Yz];cases l
 .by_cases he:s.e=0
  .rw [he]at h0 ⊢;apply Pe;simp[-getElem?_pos,go_sem,h0]
  .have heb:(s.e==0)=false:=by simpa using he
   apply Pe;simp[-getElem?_pos,go_sem,h0,he,heb]
 .apply Pe;simp[-getElem?_pos,go_sem]
def YA{n:Nat}:∀ {k k':Nat} {o o':List UInt8} {x:Int},iw b n k o=.ok x k' o'->k'=k+n/\o'=o:=by
 induction n with
 | zero=>
  intro k k' o o' x h;obtain⟨_,rfl,rfl⟩:=jC h;exact⟨rfl,rfl⟩
 | succ n ih=>
  intro k k' o o' x h;unfold iw at h;obtain⟨a,k1,o1,h1,h2⟩:=kW h;obtain⟨c,k2,o2,h3,h4⟩:=kW h2;obtain⟨rfl,rfl⟩:=ih h1;unfold wX at h3;split at h3
  .obtain ⟨_,rfl,rfl⟩:=jC h3;obtain⟨_,rfl,rfl⟩:=jC h4;exact⟨by omega,rfl⟩
  .cases h3
def adQ{F k k1:Nat}{x:Blk}{o1 o2:List UInt8}(h:CU b mo F k o1=.ok x k1 o2)(hk:k<=8*b.length):k+3<=k1:=by
 unfold CU at h;obtain⟨l,k2,o3,h1,h2⟩:=kW h;obtain⟨t,k3,o4,h3,h4⟩:=kW h2;obtain⟨u,k4,o5,h5,h6⟩:=kW h4;have e1:=(YA h1).1;have e2:=(YA h3).1;have u1:=(iR 1).up b mo _ _ _ _ _ h1 hk;have u2:=(iR 2).up b mo _ _ _ _ _ h3 u1.2.1;have u3:=(J9 F _).up b mo _ _ _ _ _ h5 u2.2.1;have h6':=h6;injection h6' with e3 e4 e5;have:=u3.1;omega
def Iu.done'{α β:Type}{m0:PM β}{m:PM α}{f:α->β}{s1:Is}(h:Iu b mo m s1 m0 s f)(hs:ji b mo s1)(he:s1.e≠0)(x:α)(y:β):mO b mo m0 s s1 y:=(h s1 x (mO.stop hs he)).any he
end
def Ji:∀ {R:List AV},(∀ p∈R,ids p=[]/\tags p=[])->aC R=[]/\aW R=[]
 | [],_=>⟨rfl,rfl⟩
 | p::R,h=>by
  obtain⟨h1,h2⟩:=h p (ays ..);obtain⟨h3,h4⟩:=Ji fun q hq=>h q (aya _ hq);exact⟨by simp[aC,h1,h3],by simp[aW,h2,h4]⟩
section
variable {c:Nat}{b:List UInt8}{mo:Int}{t:Nat}{H:AM.Heap}{o:Nat}{oa:Option Nat}{s:Is}
end
def EH(H:AM.Heap)(v:AV)(l:List UInt8):Prop :=
 (∃ o g τ ob,v=.sl o 0 l.length g/\H[o]?=some (some ob)/\RwT (.pb l) g τ ob)\/(l=[]/\∃ τ,v=.ro 0 .pn τ)
def Pz(t:Nat)(H:AM.Heap)(v:AV)(l:List UInt8):Prop :=
 (∃ o g τ ob,(τ=0\/τ=t)/\v=.sl o 0 l.length g/\H[o]?=some (some ob)/\RwT (.pb l) g τ ob)\/(l=[]/\v=.ro 0 .pn t)
def Pz.v{t:Nat}{H:AM.Heap}{v:AV}{l:List UInt8}(h:Pz t H v l):EH H v l:=by
 rcases h with⟨o,g,τ,ob,_,rfl,h1,h2⟩|⟨rfl,rfl⟩
 .exact .inl ⟨o,g,τ,ob,rfl,h1,h2⟩
 .exact .inr ⟨rfl,t,rfl⟩
section
variable {c:Nat}{b:List UInt8}{mo:Int}
def UW(E:AM.Heap)(out:List UInt8)(v:AV):Prop:=(∃ o g τ ob,(τ=0\/τ=1)/\v=.sl o 0 out.length g/\E[o]?=some (some ob)/\RwT (.pb out) g τ ob)\/(out=[]/\v=.ro 0 .pn 1)
def emY:dh X 5=.pb []:=by kernel_rfl
def adR{m:Nat}{E:AM.Heap}{oa:Option Nat}{s:Is}(h:IrV c b mo 1 E 1 oa s)(hb:b.length<=100000)(hs:ji b mo s):∃ v E',UW E' s.o v/\∃ code,Try.f50.body.bind (ay [1,1,1,1,1,0])=some code /\
 Run X (evT X) 50 m code [(7,.ptr 1 0 0 0),(20,.bool false)] E ⟨.normal,[(4,v),(5,.int .i64 ((s.k+7)/8:Nat)),(6,.int .i64 0)],E'⟩:=by
 have hk:=hs.1;obtain⟨⟨vo,τ1,τ,a1,a2,h0,ho⟩,hne⟩:=id h;have w1:IntKind.i64.wrap ((s.k:Int)+7)=((s.k+7:Nat):Int):=by rw[wrap_i64 (by omega) (by omega)];omega
 have w2:((s.k+7:Nat):Int).tdiv 8=(((s.k+7)/8:Nat):Int):=by rw[ayR (by omega)];omega
 have w2':((s.k+7:Nat):Int)/8=(((s.k+7)/8:Nat):Int):=by omega
 have w3:IntKind.i64.wrap ((((s.k+7)/8:Nat):Int))=(((s.k+7)/8:Nat):Int):=wrap_i64 (by omega) (by omega);simp only[fU]at h0;generalize (s.k + 7)/8=k2 at *;generalize s.k + 7=k3 at *;have hcase:(∃ a g τ2 ob,(τ2=0\/τ2=1)/\vo=.sl a 0 s.o.length g/\E[a]?=some (some ob)/\RwT (.pb s.o) g τ2 ob)\/(s.o=[]/\vo=.ro 0 .pn 0)\/(s.o=[]/\vo=.ro 0 .pn 1):=by
  cases oa with
  | none=>
   obtain⟨h1,τ2,hτ2,rfl⟩:=ho;rcases hτ2 with rfl|rfl
   .exact .inr (.inl ⟨h1,rfl⟩)
   .exact .inr (.inr ⟨h1,rfl⟩)
  | some a=>
   obtain⟨g,τ2,ob,hτ2,rfl,h3,h4⟩:=ho;exact .inl ⟨a,g,τ2,ob,hτ2,rfl,h3,h4⟩
 have hE1:1<E.length:=eX h0;have hE2:¬ E.length=1:=by omega
 rcases hcase with⟨a,g,τ2,ob,hτ2,rfl,h3,h4⟩|⟨h1,rfl⟩|⟨h1,rfl⟩
 .refine ⟨.sl a 0 s.o.length g,E,.inl ⟨a,g,τ2,ob,hτ2,rfl,h3,h4⟩,_,rfl,?_⟩;generalize s.o.length=N at *;apply Run.dy (by simp) FV (by simp)
  ·(conv=>lhs;simp[-getElem?_pos,go_sem,jX,out1,dw,nS,jY,pushes,kK,iP,touched,mentioned,jr,gK,dM,nT,Op.operands,ids,aC,aH,dY,dS,iC,lN,h0,w1,w2,w2',w3,ak,kL])
  .refine kM (ps:=[(0,4),(1,4),(2,4),(3,4),(0,5),(1,5),(2,5),(3,5),(0,6),(1,6),(2,6),(3,6),(0,7),(1,7),(2,7),(3,7),(0,8),(1,8),(2,8),(3,8),(0,9),(1,9),(2,9),(3,9),(4,10),(5,10),(6,10),(7,10),(8,10),(9,10)]) (by kernel_rfl) ?_;simp[y7,bear,disjoint,oZ,Call.operands,aJ,aB,aC,ids,kL,hE1,hE2]
  .rfl
 .rw [h1];refine⟨.sl E.length 0 0 0,E++[some (⟨.pb [],0,none,0,true,false,0⟩:AM.Obj)],.inl ⟨E.length,0,0,_,.inl rfl,rfl,ayl,⟨rfl,rfl,rfl,rfl,rfl⟩⟩,_,rfl,?_⟩;have hc:(E++[some (⟨.pb [],0,none,0,true,false,0⟩:AM.Obj)])[1]?=E[1]?:=axL hE1;apply Run.dy (by simp) FV (by simp)
  ·(conv=>lhs;simp[-getElem?_pos,go_sem,jX,out1,dw,nS,jY,pushes,kK,iP,touched,mentioned,jr,gK,dM,nT,Op.operands,ids,aC,aH,dY,dS,iC,lN,h0,hc,w1,w2,w2',w3,ak,kL,rowOf,emY])
  .refine kM (ps:=[(0,4),(1,4),(2,4),(3,4),(0,5),(1,5),(2,5),(3,5),(0,6),(1,6),(2,6),(3,6),(0,7),(1,7),(2,7),(3,7),(0,8),(1,8),(2,8),(3,8),(0,9),(1,9),(2,9),(3,9),(4,10),(5,10),(6,10),(7,10),(8,10),(9,10)]) (by kernel_rfl) ?_;simp[y7,bear,disjoint,oZ,Call.operands,aJ,aB,aC,ids,kL,hE1,hE2]
  .rfl
 .refine ⟨.ro 0 .pn 1,E,.inr ⟨h1,rfl⟩,_,rfl,?_⟩;apply Run.dy (by simp) FV (by simp)
  ·(conv=>lhs;simp[-getElem?_pos,go_sem,jX,out1,dw,nS,jY,pushes,kK,iP,touched,mentioned,jr,gK,dM,nT,Op.operands,ids,aC,aH,dY,dS,iC,lN,h0,w1,w2,w2',w3,ak,kL])
  .refine kM (ps:=[(0,4),(1,4),(2,4),(3,4),(0,5),(1,5),(2,5),(3,5),(0,6),(1,6),(2,6),(3,6),(0,7),(1,7),(2,7),(3,7),(0,8),(1,8),(2,8),(3,8),(0,9),(1,9),(2,9),(3,9),(4,10),(5,10),(6,10),(7,10),(8,10),(9,10)]) (by kernel_rfl) ?_;simp[y7,bear,disjoint,oZ,Call.operands,aJ,aB,aC,ids,kL,hE1,hE2]
  .rfl
def adS{m:Nat}{E:AM.Heap}{oa:Option Nat}{s:Is}(h:IrV c b mo 1 E 1 oa s):∃ E',UW E' [] (.sl E.length 0 0 0)/\∃ code,Try.f50.body.bind (ay [1,1,1,1,0,1,0,0])=some code /\
 Run X (evT X) 50 m code [(7,.ptr 1 0 0 0),(20,.bool true)] E ⟨.normal,[(4,.sl E.length 0 0 0),(5,.int .i64 0),(6,.int .i64 s.e)],E'⟩:=by
 obtain⟨⟨vo,τ1,τ,a1,a2,h0,ho⟩,hne⟩:=id h;simp only[fU]at h0;have hE1:1<E.length:=eX h0;have hE2:¬ E.length=1:=by omega
 refine⟨E++[some (⟨.pb [],0,none,0,true,false,0⟩:AM.Obj)],.inl ⟨E.length,0,0,_,.inl rfl,rfl,ayl,⟨rfl,rfl,rfl,rfl,rfl⟩⟩,_,rfl,?_⟩;apply Run.dy (by simp) X8 (by simp)
 ·(conv=>lhs;simp[-getElem?_pos,go_sem,jX,out1,dw,nS,jY,pushes,kK,iP,touched,mentioned,jr,gK,dM,nT,Op.operands,ids,aC,aH,dY,dS,iC,lN,h0,ak,kL,rowOf,emY])
 .refine kM (ps:=[(0,4),(1,4),(2,4),(3,4),(0,5),(1,5),(2,5),(3,5)]) (by kernel_rfl) ?_;simp[y7,bear,disjoint,oZ,Call.operands,aJ,aB,aC,ids,kL,hE1,hE2]
 .rfl
def arL(c:Nat)(b:List UInt8)(mo:Int)(t:Nat):lH X 106 [(0,.ro c (.pb b) t),(3,.int .i64 mo)]=some (.agg (.pc [.ro c (.pb b) t,.int .i64 0,.ro 0 .pn 0,.int .i64 mo,.int .i64 0])):=by kernel_rfl
def arM(b:List UInt8)(mo:Int)(F:Nat)(fr:AM.Frame)(H1:AM.Heap):Prop :=
 ∃ out n e v,wM F b mo=(out,n,e)/\aB fr 4=v/\aB fr 5=.int .i64 n/\aB fr 6=.int .i64 e/\UW H1 out v
end
def EH.sl{H:AM.Heap}{v:AV}{l:List UInt8}(h:EH H v l)(hl:l≠[]):∃ o g τ ob,v=.sl o 0 l.length g/\H[o]?=some (some ob)/\RwT (.pb l) g τ ob:=h.elim id fun h=>absurd h.1 hl
def Byt.adT{H:AM.Heap}{o g τ:Nat}{ob:AM.Obj}{l:List UInt8}(ho:H[o]?=some (some ob))(h:RwT (.pb l) g τ ob):Byt H (.sl o 0 l.length g) l:=by
 have hlive:live H o g=some ob:=by simp[live,ho,h.g]
 refine⟨if ob.z=0/\AM.ah ob.p=0 then 0 else 2,.pb l,.inl rfl,fun h0=>?_,fun t=>⟨⟨[o],[ob.tg]⟩,?_⟩⟩
 .split at h0
  .rename_i hz;have:=hz.2;rw[h.p]at this;exact ayk this
  .cases h0
 .simp [dY,dS,hlive,h.ids,h.p,gq]
def EH.byt{H:AM.Heap}{v:AV}{l:List UInt8}(h:EH H v l):Byt H v l:=by
 rcases h with⟨o,g,τ,ob,rfl,ho,hw⟩|⟨rfl,τ,rfl⟩
 .exact Byt.adT ho hw
 .exact Byt.ro (.inr ⟨rfl,rfl⟩) (fun _=>rfl)
def EH.asg{H:AM.Heap}{v:AV}{l:List UInt8}(h:EH H v l):∃ v' H',ak X H 22 v=(v',H')/\EH H' v' l/\H.length<=H'.length/\∀ j,j<H.length->H'[j]?=H[j]?:=by
 rcases h with⟨o,g,τ,ob,rfl,ho,hw⟩|⟨rfl,τ,rfl⟩
 .exact ⟨_,H,rfl,.inl ⟨o,g,τ,ob,rfl,ho,hw⟩,axO _,fun _ _=>rfl⟩
 .by_cases h0:τ=0
  .subst h0;refine⟨.sl H.length 0 0 0,H++[some (⟨.pb [],0,none,0,true,false,0⟩:AM.Obj)],?_,.inl ⟨H.length,0,0,⟨.pb [],0,none,0,true,false,0⟩,rfl,by simp,⟨rfl,rfl,rfl,rfl,rfl⟩⟩,by simp,fun j hj=>axL hj⟩;simp[ak,rowOf,emY]
  .refine ⟨.ro 0 .pn τ,H,?_,.inr ⟨rfl,τ,rfl⟩,axO _,fun _ _=>rfl⟩;simp[ak,h0]
def Pz.asg{t:Nat}{H:AM.Heap}{v:AV}{l:List UInt8}(h:Pz t H v l)(ht:t≠0):ak X H 22 v=(v,H):=by
 rcases h with⟨o,g,τ,ob,hτ,rfl,ho,hw⟩|⟨rfl,rfl⟩
 .rfl
 .simp [ak,ht]
def EH.keep{H H':AM.Heap}{v:AV}{l:List UInt8}(h:EH H v l)(hk:∀ j,j<H.length->H'[j]?=H[j]?):EH H' v l:=by
 rcases h with⟨o,g,τ,ob,rfl,ho,hw⟩|h
 .exact .inl ⟨o,g,τ,ob,rfl,by rw[hk o (eX ho)];exact ho,hw⟩
 .exact .inr h
def afv(H:AM.Heap)(t:Nat)(k:IntKind)(n:Int):ak X H t (.int k n)=(.int k n,H):=rfl
def UY(H:AM.Heap):evT X 51 [.int .u32 1] H=some (.tup [.int .u32 1,.int .u32 0],H):=by
 have:=dI (Ev1.tried (C:=X) (T:=fun _ _ _=>none) Below.none (n:=20) (f:=51) (args:=[.int .u32 1]) (v:=.tup [.int .u32 1,.int .u32 0]) (N:=[]) (by kernel_rfl) H);simpa[dL,lI,ren,bU]using this
section
variable {c:Nat}{l:List UInt8}
def Ba(c t:Nat)(l:List UInt8)(lo hi:Int)(i:Nat):AM.Frame:=[(5,.int .u32 lo),(6,.int .u32 hi),(18,.ro c (.pb l) t),(19,.int .i64 (l.length:Nat)),(20,.int .i64 (i:Nat))]
def Ql:∀ (l:List UInt8) (i:Nat) (lo hi:Int) {x:UInt8},l[i]?=some x->mX lo hi (l.drop i)=mX (lo1 lo x) (hi1 lo hi x) (l.drop (i+1)):=by
 intro l i lo hi x hx;have hi':i<l.length:=eX hx;rw[ayz hi',mX];rw[axI hi']at hx;rw[axN hx]
def UZ{t:Nat}(hl:l.length<=1000000):∃ code,Try.f41.body=some code/\Run X (evT X) 41 0 code [(0,.int .u32 1),(1,.ro c (.pb l) t)] [] ⟨.ret,[(4,.int .u32 (adl l:Nat))],[]⟩:=by
 refine⟨_,rfl,?_⟩;have hh:=UY [];apply Run.seq (fr':=[(0,.int .u32 1),(1,.ro c (.pb l) t)]) (H':=[])
 .apply Pe;simp[-getElem?_pos,go_sem]
 apply Run.seq (fr':=[(1,.ro c (.pb l) t),(5,.int .u32 1),(6,.int .u32 0)]) (H':=[])
 .apply Pe;simp[-getElem?_pos,go_sem,hh]
 apply Run.seq (fr':=[(1,.ro c (.pb l) t),(5,.int .u32 1),(6,.int .u32 0)]) (H':=[])
 .apply Pe;simp[-getElem?_pos,go_sem]
 apply Run.seq (fr':=Ba c t l (mX 1 0 l).1 (mX 1 0 l).2 l.length++[(21,.bool false)]) (H':=[])
 .apply Run.seq (fr':=Ba c t l 1 0 0) (H':=[])
  .simp only[Ba];generalize hL:l.length=L at *;apply Pe;simp[-getElem?_pos,go_sem,hL]
  apply Run.iM;refine Run.mY (σ:=Nat×Int×Int) (fun s=>s.1<=l.length/\mX s.2.1 s.2.2 (l.drop s.1)=mX 1 0 l) (fun s=>Ba c t l s.2.1 s.2.2 s.1) (fun _=>[]) (fun _=>⟨.exit 0,Ba c t l (mX 1 0 l).1 (mX 1 0 l).2 l.length++[(21,.bool false)],[]⟩) (fun s=>l.length-s.1) ?_ (0,1,0) ⟨by simp,rfl⟩;rintro⟨i,lo,hi⟩ ⟨h1,h2⟩;simp only at h1 h2 ⊢;by_cases he:i=l.length
  .right
   subst he;rw[List.drop_length]at h2;refine⟨?_,by simp⟩;rw[<- h2];simp only[mX,Ba];generalize hL:l.length=L at *;apply Pe;simp[-getElem?_pos,go_sem,hL]
  .left
   have hlt:i<l.length:=by omega
   have rW:(i:Int)<(l.length:Int):=by omega
   obtain⟨x,hx⟩:∃ x,l[i]?=some x:=⟨l[i],axI hlt⟩;rw[Ql l i lo hi hx]at h2;have w1:IntKind.i64.wrap ((i:Int)+1)=((i+1:Nat):Int):=by rw[wrap_i64 (by omega) (by omega)];omega
   refine⟨(i+1,lo1 lo x,hi1 lo hi x),⟨by simp only;omega,h2⟩,?_,trivial,by simp only;omega⟩;simp only;apply Run.seq (fr':=Ba c t l lo hi i++[(21,.bool true)]) (H':=[])
   .simp only[Ba];generalize hL:l.length=L at *;apply Pe;simp[-getElem?_pos,go_sem,rW,hL]
   apply Run.seq (fr':=Ba c t l lo hi i++[(21,.bool true)]) (H':=[])
   .exact Run.cond (d:=true) (by simp[Ba,aJ,aB]) ⟨0,rfl⟩
   apply Run.seq (fr':=Ba c t l (lo1 lo x) (hi1 lo hi x) i) (H':=[])
   .refine Run.block ?_ (by simp);apply Run.seq (fr':=[(5,.int .u32 lo),(6,.int .u32 hi),(8,.int .u8 (x.toNat:Nat)),(18,.ro c (.pb l) t),(19,.int .i64 (l.length:Nat)),(20,.int .i64 (i:Nat))]) (H':=[])
    .simp only[Ba];generalize hL:l.length=L at *;apply Pe;simp[-getElem?_pos,go_sem,hx,rW,hlt,hL,retag]
    apply Run.seq (fr':=Ba c t l (lo1 lo x) hi i) (H':=[]) ⟨0,rfl⟩;exact⟨0,rfl⟩
   .simp only[Ba];generalize i + 1=i1 at *;generalize l.length=L at *;apply Pe;simp[-getElem?_pos,go_sem,w1]
 rw[<- Yi];generalize mX 1 0 l=r at *;apply Run.seq (fr':=[(4,.int .u32 (MN r.1 r.2))]) (H':=[]) ⟨0,rfl⟩;exact⟨0,rfl⟩
def Td{H:AM.Heap}{a:AV}(ha:fJ H a=some (.pb l))(hl:l.length<=1000000):evT X 41 [.int .u32 1,a] H=some (.int .u32 (adl l:Nat),H):=by
 obtain⟨c,x,hx⟩:=iy (C:=X) (f:=41) (i:=1) rfl ha (dR 2);have hx2:=dX (C:=X) (f:=41) (i:=0) (a:=.int .u32 1) (H:=H) rfl rfl hx;obtain⟨code,hc,hr⟩:=UZ (c:=c) (l:=l) (t:=2) hl;refine dI (Ev1.rU (l:=[.int .u32 (adl l:Nat)]) (bC X) Try.func41 hc hx2 (by simp[aC,ids]) (by simp[dA]) rfl rfl rfl ?_);rw[agm];exact⟨_,⟨rfl,rfl⟩,hr⟩
def YB{H:AM.Heap}{a:AV}(ha:fJ H a=some (.pb l))(hl:l.length<=1000000):evT X 34 [a] H=some (.int .u32 (adl l:Nat),H):=by
 obtain⟨c,x,hx⟩:=iy (C:=X) (f:=34) (i:=0) rfl ha (dR 1);have hm:=Td (H:=[]) (a:=.ro c (.pb l) 1) (l:=l) rfl hl;have hr:∃ code,Try.f34.body=some code/\Run X (evT X) 34 0 code [(0,.ro c (.pb l) 1)] [] ⟨.ret,[(2,.int .u32 (adl l:Nat))],[]⟩:=by refine⟨_,rfl,0,?_⟩;simp[-getElem?_pos,go_sem,hm]
 obtain⟨code,hc,hr⟩:=hr;refine dI (Ev1.rU (l:=[.int .u32 (adl l:Nat)]) (bC X) Try.func34 hc hx (by simp[aC,ids]) (by simp[dA]) rfl rfl rfl ?_);rw[acQ];exact⟨_,⟨rfl,rfl⟩,hr⟩
def ahZ(H:AM.Heap):bT X H 22 2 [(0,.int .u8 120),(1,.int .u8 1)]=some (.ro 1 (.pb [120,1]) 0,H):=by kernel_rfl
def arN(H:AM.Heap)(s:Nat):bT X H 22 4 [(0,.int .u8 (UInt8.ofNat (s/16777216)).toNat),(1,.int .u8 (UInt8.ofNat (s/65536)).toNat),(2,.int .u8 (UInt8.ofNat (s/256)).toNat),(3,.int .u8 (UInt8.ofNat s).toNat)]=some (.ro 1 (.pb (be4 s)) 0,H):=by
 unfold be4;generalize UInt8.ofNat (s/16777216)=x0;generalize UInt8.ofNat (s/65536)=x1;generalize UInt8.ofNat (s/256)=x2;generalize UInt8.ofNat s=x3;have h0:(x0.toNat:Int)<256:=by have:=x0.toNat_lt;omega
 have h1:(x1.toNat:Int)<256:=by have:=x1.toNat_lt;omega
 have h2:(x2.toNat:Int)<256:=by have:=x2.toNat_lt;omega
 have h3:(x3.toNat:Int)<256:=by have:=x3.toNat_lt;omega
 simp[bT,iY,qN,mkRow,jJ,eF,cellsOf,scalars,scalar,aC,ids,aW,tags,bY,h0,h1,h2,h3]
def aa1{H:AM.Heap}{o g:Nat}{ob:AM.Obj}{l:List UInt8}(ho:H[o]?=some (some ob))(hw:Rw (.pb l) g ob)(hne:l≠[])(hl:l.length<=100000):bG X H 22 (.ro 1 (.pb [120,1]) 0) (.sl o 0 l.length g)=some (.sl H.length 0 (120::1::l).length 0,H++[some ⟨.pb (120::1::l),0,none,1,true,false,0⟩]):=by
 have hr:dQ X 5 (2+l.length)=true:=by simp[dQ];omega
 have he:2+l.length=l.length+1+1:=by omega
 have q1:=hw.p;have q2:=hw.g;have q4:=hw.ids;have q5:=hw.tg;simp only[bG,lM,nO,vN];simp[gJ,jq,ah,kH,hr,l9,emY,aS,live,ho,q1,q2,q4,q5,gq,dJ,hne,he ▸ hr,he]
end
def aa2(F:Nat)(mo:Int)(h:0<=mo):wM (F+1) [] mo=([],0,4):=by
 unfold wM;rw[if_neg (by omega)];rfl
def aa3{b:List UInt8}(hb:b.length<=65535):iq b≠[]:=by
 intro e;have h:=Jd (F:=b.length+1) (b:=b) (r:=[]) (mo:=(b.length:Nat)) hb (Int.le_refl _) (by omega);rw[e,ax1,aa2 _ _ (by omega)]at h;exact absurd (Prod.mk.inj (Prod.mk.inj h).2).2 (by decide)
section
variable {c:Nat}{b:List UInt8}
def byte_of(s:Nat):IntKind.u8.wrap ((s:Nat):Int)=(UInt8.ofNat s).toNat:=by
 rw[ayU];show((s:Nat):Int)%256=((s%256:Nat):Int);omega
def U0{m:Nat}(hb:b.length<=1400):∃ code,Try.f25.body=some code/\aj (lG fun fr E=>∃ a g ob,aB fr 2=.sl a 0 (jI b).length g/\E[a]?=some (some ob)/\Rw (.pb (jI b)) g ob) X (evT X) 25 m code [(0,.ro c (.pb b) 1)] []:=by
 refine⟨_,rfl,?_⟩;have hs:=YB (H:=[some (⟨.pb [],0,none,0,true,false,0⟩:AM.Obj)]) (a:=.ro c (.pb b) 1) (l:=b) rfl (by omega);obtain⟨ob1,w1,e1⟩:=PX (H:=[some (⟨.pb [],0,none,0,true,false,0⟩:AM.Obj)]) (a:=.ro c (.pb b) 1) (b:=b) rfl hb;have hlt:=Py b;have hdl:=Yh b;have hA:bG X [some (⟨.pb [],0,none,0,true,false,0⟩:AM.Obj),some ob1] 22 (.ro 1 (.pb [120,1]) 0) (.sl 1 0 (iq b).length 0)=some (.sl 2 0 (120::1::iq b).length 0,[some (⟨.pb [],0,none,0,true,false,0⟩:AM.Obj),some ob1,some ⟨.pb (120::1::iq b),0,none,1,true,false,0⟩]):=aa1 (H:=[some (⟨.pb [],0,none,0,true,false,0⟩:AM.Obj),some ob1]) (o:=1) rfl w1 (aa3 (by omega)) (by omega);obtain⟨ob2,w2,hB⟩:=Dc (C:=X) (T:=22) (e:=5) (H:=[some (⟨.pb [],0,none,0,true,false,0⟩:AM.Obj),some ob1,some ⟨.pb (120::1::iq b),0,none,1,true,false,0⟩]) (o:=2) (g:=0) (ob:=⟨.pb (120::1::iq b),0,none,1,true,false,0⟩) (l:=120::1::iq b) (m:=be4 (adl b)) (src:=.ro 1 (.pb (be4 (adl b))) 0) lM Ai nO bytes5 vN rfl ⟨rfl,rfl,rfl,rfl,rfl⟩ (.inl (by simp[gJ,jq,kH])) (by simp[be4];omega);have hp:jI b=(120::1::iq b)++be4 (adl b):=rfl;have hlen:(jI b).length=(120::1::iq b).length+(be4 (adl b)).length:=by rw[hp,axR]
 rw[<- hp]at w2;rw[<- hlen]at hB;simp only[axY,ax3,ayj,ax8]at e1;apply aj.seq (fr':=[(0,.ro c (.pb b) 1)]) (H':=[some (⟨.pb [],0,none,0,true,false,0⟩:AM.Obj)])
 .apply Pe;simp[-getElem?_pos,go_sem,ak,rowOf,emY]
 generalize hr0:some (⟨.pb [],0,none,0,true,false,0⟩:AM.Obj)=r0 at *;generalize hr1:some (⟨.pb (120::1::iq b),0,none,1,true,false,0⟩:AM.Obj)=r1 at *;apply aj.seq (fr':=[(0,.ro c (.pb b) 1),(3,.int .u32 (adl b:Nat))]) (H':=[r0])
 .generalize adl b=s at *;apply Pe;simp[-getElem?_pos,go_sem,hs]
 have f3:((adl b:Nat):Int).fdiv 16777216=((adl b/16777216:Nat):Int):=by rw[ayH _ (by omega)];omega
 have f2:((adl b:Nat):Int).fdiv 65536=((adl b/65536:Nat):Int):=by rw[ayH _ (by omega)];omega
 have f1:((adl b:Nat):Int).fdiv 256=((adl b/256:Nat):Int):=by rw[ayH _ (by omega)];omega
 have f3':((adl b:Nat):Int)/16777216=((adl b/16777216:Nat):Int):=by omega
 have f2':((adl b:Nat):Int)/65536=((adl b/65536:Nat):Int):=by omega
 have f1':((adl b:Nat):Int)/256=((adl b/256:Nat):Int):=by omega
 have g3:=byte_of (adl b/16777216);have g2:=byte_of (adl b/65536);have g1:=byte_of (adl b/256);have g0:=byte_of (adl b);have hb4:=fun H=>arN H (adl b);apply aj.seq (fr':=[(3,.int .u32 (adl b:Nat)),(4,.sl 2 0 (120::1::iq b).length 0)]) (H':=[r0,some ob1,r1])
 .generalize (120::1::iq b).length=N3 at *;generalize (iq b).length=N at *;generalize adl b=s at *;apply Pe;simp[-getElem?_pos,go_sem,ahZ,e1,hA,ak]
 refine aj.of (o:=⟨.ret,[(2,.sl 2 0 (jI b).length (0+1))],AM.upd [r0,some ob1,r1] 2 (some ob2)⟩) ?_ ⟨rfl,2,_,ob2,rfl,rfl,w2⟩;refine⟨0,?_⟩;generalize (120::1::iq b).length=N at *;generalize (jI b).length=N2 at *;generalize be4 (adl b)=q at *;generalize (UInt8.ofNat (adl b/16777216)).toNat=y3 at *;generalize (UInt8.ofNat (adl b/65536)).toNat=y2 at *;generalize (UInt8.ofNat (adl b/256)).toNat=y1 at *;generalize (UInt8.ofNat (adl b)).toNat=y0 at *;generalize adl b/16777216=z3 at *;generalize adl b/65536=z2 at *;generalize adl b/256=z1 at *;generalize adl b=s at *;simp[-getElem?_pos,go_sem,f3,f2,f1,f3',f2',f1',g3,g2,g1,g0,hb4,hB,ak]
def aa4{H:AM.Heap}{a:AV}(ha:fJ H a=some (.pb b))(hb:b.length<=1400):∃ ob,Rw (.pb (jI b)) 0 ob/\evT X 25 [a] H=some (.sl H.length 0 (jI b).length 0,H++[some ob]):=by
 obtain⟨c,x,hx⟩:=iy (C:=X) (f:=25) (i:=0) rfl ha (dR 1);obtain⟨code,hc,⟨out,⟨ho,a2,g,ob,h2,h4,hw⟩,hrun⟩⟩:=U0 (m:=0) (c:=c) hb;obtain⟨ob',q1,q2⟩:=Ev1.Kz (C:=X) (H:=H) (bC X) (n:=(jI b).length) (l:=jI b) (rest:=[]) Try.func25 hc hx rfl (by simp[dA]) rfl rfl rfl (by
  rw[agf];refine⟨out,⟨ho,a2,g,ob,?_,h4,hw⟩,hrun⟩;show aT X out.fr out.H [.tmp 2]=_;simp[aT,h2])
 exact⟨ob',q1,dI q2⟩
end
def sqP(th:Nat)(p:List UInt8):List UInt8×Nat:=if th<=p.length/\(jI p).length<p.length then(jI p,p.length)else(p,0)
def sqH(s:Nat)(x:List UInt8×Nat):List UInt8:=leB 3 x.1.length++[UInt8.ofNat s]++leB 3 x.2++x.1
def sqG(mo th:Nat):Nat->List UInt8->Nat->List UInt8->List UInt8×Nat
 | 0,_,s,o=>(o,s)
 | f+1,b,s,o=>if b.length=0 then(o,s)else sqG mo th f (b.drop mo) ((s+1)%256) (o++sqH s (sqP th (b.take mo)))
def JX{th:Nat}{p:List UInt8}:(sqP th p).1.length<=p.length/\(sqP th p).2<=p.length:=by
 unfold sqP;split
 .rename_i h;exact⟨by simp only;omega,axO _⟩
 .exact ⟨axO _,ayF _⟩
def SqB(E:AM.Heap)(v:AV)(l:List UInt8):Prop:=v=.ro 2 (.pb l) 1\/∃ z ob,v=.sl z 0 l.length 0/\E[z]?=some (some ob)/\Rw (.pb l) 0 ob
def SqB.src{E:AM.Heap}{v:AV}{l:List UInt8}(h:SqB E v l):gJ E v=some (.pb l,0):=by
 rcases h with rfl|⟨z,ob,rfl,h1,h2⟩
 .simp [gJ,jq,kH]
 .have q1:=h2.p;have q2:=h2.g;have q4:=h2.ids;have q5:=h2.tg;simp[gJ,live,h1,q1,q2,q4,q5,gq,kH,jq]
def SqB.keep{E E':AM.Heap}{v:AV}{l:List UInt8}(h:SqB E v l)(hk:∀ j,j<E.length->E'[j]?=E[j]?):SqB E' v l:=by
 rcases h with rfl|⟨z,ob,rfl,h1,h2⟩
 .exact .inl rfl
 .exact .inr ⟨z,ob,rfl,by rw[hk z (eX h1)];exact h1,h2⟩
section
variable {c:Nat}{B:List UInt8}
def qH(c:Nat)(B:List UInt8)(s mo th:Nat)(v:AV):AM.Frame:=[(0,.ro c (.pb B) 1),(1,.int .u8 (s:Nat)),(2,.int .i64 (mo:Nat)),(3,.int .i64 (th:Nat)),(11,v)]
def nI(c:Nat)(B:List UInt8)(s mo th:Nat)(v:AV)(k:Nat)(pv:AV)(a:Nat):AM.Frame:=[(0,.ro c (.pb B) 1),(1,.int .u8 (s:Nat)),(2,.int .i64 (mo:Nat)),(3,.int .i64 (th:Nat)),(11,v),(12,.int .i64 (k:Nat)),(13,pv),(14,.int .i64 (a:Nat))]
def YC(B:List UInt8)(mo:Nat):B.take (min B.length mo)=B.take mo:=by
 by_cases h:mo<=B.length
 .rw [az1 h]
 .rw [ayG (by omega),aym (axO _),aym (by omega)]
def YD(B:List UInt8)(mo:Nat):B.drop (min B.length mo)=B.drop mo:=by
 by_cases h:mo<=B.length
 .rw [az1 h]
 .rw [ayG (by omega),azm (axO _),azm (by omega)]
def SqB.pay{E:AM.Heap}{v:AV}{l:List UInt8}(h:SqB E v l):fJ E v=some (.pb l):=by
 rcases h with rfl|⟨z,ob,rfl,h1,h2⟩
 .rfl
 .simp only[fJ,live,h1,h2.g,if_true,h2.ids,h2.p,gq];simp
def ah0{m s mo th:Nat}{v:AV}{tl:AM.Frame}{E:AM.Heap}(hb:B.length<=100000)(hm:mo<=16777215):∃ code,Try.f10.body.bind (ay [1,1,1,0,0,0,1,0,0])=some code/\Run X (evT X) 10 m code (qH c B s mo th v++tl) E ⟨.normal,qH c B s mo th v++[(12,.int .i64 (min B.length mo:Nat))],E⟩:=by
 refine⟨_,rfl,?_⟩;have hmm:kP false (.int .i64 (B.length:Nat)) [.int .i64 (mo:Nat)]=some (.int .i64 (min B.length mo:Nat)):=by
  by_cases h:(mo:Int)<(B.length:Int)
  .rw [az1 (by omega)];simp only[kP,h,if_true];simp
  .rw [ayG (by omega)];simp only[kP,h,if_false];simp
 generalize min B.length mo=k at *;simp only[qH];generalize hL:B.length=L at *;apply Pe;simp[-getElem?_pos,go_sem,hL,hmm]
def ah1{m s mo th k:Nat}{v:AV}{E:AM.Heap}(hc:c≠0)(hk:k<=B.length)(hb:B.length<=100000):∃ code,Try.f10.body.bind (ay [1,1,1,0,0,0,1,0,1,0])=some code/\Run X (evT X) 10 m code (qH c B s mo th v++[(12,.int .i64 (k:Nat))]) E ⟨.normal,nI c B s mo th v k (.ro 2 (.pb (B.take k)) 1) 0,E⟩:=by
 refine⟨_,rfl,?_⟩;have hkI:(k:Int)<=(B.length:Int):=by omega
 have hz:gq (.pb B) 0 k=some (.pb (B.take k)):=by simp[gq];omega
 simp only[qH,nI];generalize B.take k=P at *;generalize hL:B.length=L at *;apply Pe;simp[-getElem?_pos,go_sem,hL,gY,bound,hk,hkI,hz,hc,ak]
def ah2{m s mo th k a:Nat}{v pv:AV}{E:AM.Heap}:∃ code,Try.f10.body.bind (ay [1,1,1,0,0,0,1,0,1,1,0,0])=some code/\Run X (evT X) 10 m code (nI c B s mo th v k pv a) E ⟨.normal,nI c B s mo th v k pv a++[(46,.bool (decide (th<=k)))],E⟩:=by
 refine⟨_,rfl,?_⟩;simp only[nI];by_cases h:th<=k
 .have hI:(th:Int)<=(k:Int):=by omega
  rw[decide_eq_true h];apply Pe;simp[-getElem?_pos,go_sem,h,hI]
 .have hI:¬ (th:Int)<=(k:Int):=by omega
  rw[decide_eq_false h];apply Pe;simp[-getElem?_pos,go_sem,h,hI]
def ah3{m s mo th k a:Nat}{v:AV}{p:List UInt8}{tl:AM.Frame}{E:AM.Heap}{ob:AM.Obj}(e1:evT X 25 [.ro 2 (.pb p) 1] E=some (.sl E.length 0 (jI p).length 0,E++[some ob])):∃ code,Try.f10.body.bind (ay [1,1,1,0,0,0,1,0,1,1,0,1,0,0])=some code/\Run X (evT X) 10 m code (nI c B s mo th v k (.ro 2 (.pb p) 1) a++tl) E ⟨.normal,nI c B s mo th v k (.ro 2 (.pb p) 1) a++[(15,.sl E.length 0 (jI p).length 0)],E++[some ob]⟩:=by
 refine⟨_,rfl,?_⟩;simp only[nI];generalize (jI p).length=N at *;apply Pe;simp[-getElem?_pos,go_sem,e1,ak]
def ah4{m s mo th k a z n:Nat}{v pv:AV}{E:AM.Heap}{ob:AM.Obj}(hz:E[z]?=some (some ob))(hg:ob.g=0):∃ code,Try.f10.body.bind (ay [1,1,1,0,0,0,1,0,1,1,0,1,0,1,0])=some code/\Run X (evT X) 10 m code (nI c B s mo th v k pv a++[(15,.sl z 0 n 0)]) E ⟨.normal,nI c B s mo th v k pv a++[(15,.sl z 0 n 0),(52,.bool (decide (n<k)))],E⟩:=by
 refine⟨_,rfl,?_⟩;simp only[nI];by_cases h:n<k
 .have hI:(n:Int)<(k:Int):=by omega
  rw[decide_eq_true h];apply Pe;simp[-getElem?_pos,go_sem,hz,hg,h,hI]
 .have hI:¬ (n:Int)<(k:Int):=by omega
  rw[decide_eq_false h];apply Pe;simp[-getElem?_pos,go_sem,hz,hg,h,hI]
def adU{m s mo th k a z n:Nat}{v pv:AV}{tl:AM.Frame}{E:AM.Heap}:∃ code,Try.f10.body.bind (ay [1,1,1,0,0,0,1,0,1,1,0,1,0,1,1,0])=some code/\Run X (evT X) 10 m code (nI c B s mo th v k pv a++(15,.sl z 0 n 0)::tl) E ⟨.normal,nI c B s mo th v k (.sl z 0 n 0) k,E⟩:=by
 refine⟨_,rfl,?_⟩;simp only[nI];apply Pe;simp[-getElem?_pos,go_sem,ak]
def aa5{m s mo th k:Nat}{v:AV}{p:List UInt8}{E:AM.Heap}(hk:k=p.length)(hp:p.length<=1400):∃ R pv tl,SqB (E++R) pv (sqP th p).1/\∃ code,Try.f10.body.bind (ay [1,1,1,0,0,0,1,0,1,1,0])=some code/\Run X (evT X) 10 m code (nI c B s mo th v k (.ro 2 (.pb p) 1) 0) E ⟨.normal,nI c B s mo th v k pv (sqP th p).2++tl,E++R⟩:=by
 have h7:=ah2 (m:=m) (c:=c) (B:=B) (s:=s) (mo:=mo) (th:=th) (k:=k) (a:=0) (v:=v) (pv:=.ro 2 (.pb p) 1) (E:=E);unfold sqP;rw[<- hk];by_cases h1:th<=k
 .rw [decide_eq_true h1]at h7;obtain⟨ob,w,e1⟩:=aa4 (H:=E) (a:=.ro 2 (.pb p) 1) (b:=p) rfl hp;have h8:=ah3 (m:=m) (c:=c) (B:=B) (s:=s) (mo:=mo) (th:=th) (k:=k) (a:=0) (v:=v) (tl:=[(46,.bool true)]) e1;have hz:(E++[some ob])[E.length]?=some (some ob):=ayl;have h9:=ah4 (m:=m) (c:=c) (B:=B) (s:=s) (mo:=mo) (th:=th) (k:=k) (a:=0) (n:=(jI p).length) (v:=v) (pv:=.ro 2 (.pb p) 1) hz w.g;by_cases h2:(jI p).length<k
  .rw [if_pos ⟨h1,h2⟩];rw[decide_eq_true h2]at h9;have h10:=adU (m:=m) (c:=c) (B:=B) (s:=s) (mo:=mo) (th:=th) (k:=k) (a:=0) (z:=E.length) (n:=(jI p).length) (v:=v) (pv:=.ro 2 (.pb p) 1) (tl:=[(52,.bool true)]) (E:=E++[some ob]);refine⟨[some ob],.sl E.length 0 (jI p).length 0,[],.inr ⟨E.length,ob,rfl,hz,w⟩,_,rfl,?_⟩;rw[ax1];apply Run.seq (piece h7 _ rfl);refine Run.cond (d:=true) (by simp[nI,aJ,aB]) ?_;apply Run.seq (piece h8 _ rfl);apply Run.seq (piece h9 _ rfl);refine Run.cond (d:=true) (by simp[nI,aJ,aB]) ?_;exact piece h10 _ rfl
  .rw [if_neg (fun h=>h2 h.2)];rw[decide_eq_false h2]at h9;refine⟨[some ob],.ro 2 (.pb p) 1,[(15,.sl E.length 0 (jI p).length 0),(52,.bool false)],.inl rfl,_,rfl,?_⟩;apply Run.seq (piece h7 _ rfl);refine Run.cond (d:=true) (by simp[nI,aJ,aB]) ?_;apply Run.seq (piece h8 _ rfl);apply Run.seq (piece h9 _ rfl);exact Run.cond (d:=false) (by simp[nI,aJ,aB]) ⟨0,rfl⟩
 .rw [if_neg (fun h=>h1 h.1)];rw[decide_eq_false h1]at h7;refine⟨[],.ro 2 (.pb p) 1,[(46,.bool false)],.inl rfl,_,rfl,?_⟩;rw[ax1];apply Run.seq (piece h7 _ rfl);exact Run.cond (d:=false) (by simp[nI,aJ,aB]) ⟨0,rfl⟩
end
def aa6(c:Nat)(B:List UInt8)(s mo th:Nat)(v:AV)(k:Nat)(pv:AV):AM.Frame:=[(0,.ro c (.pb B) 1),(1,.int .u8 (s:Nat)),(2,.int .i64 (mo:Nat)),(3,.int .i64 (th:Nat)),(11,v),(12,.int .i64 (k:Nat)),(13,pv)]
section
variable {c:Nat}{B:List UInt8}
def adV{m s mo th k a N:Nat}{v pv:AV}{x:List UInt8}{tl:AM.Frame}{E:AM.Heap}{ob2:AM.Obj}(hN:SqB E pv x)(hx:x.length<=100000)(e:evT X 26 [v,.int .u64 (x.length:Nat),.int .i64 (3:Nat)] E=some (.tup [.sl E.length 0 N 0,.int .i64 0],E++[some ob2])) :
 ∃ code,Try.f10.body.bind (ay [1,1,1,0,0,0,1,0,1,1,1,0])=some code/\Run X (evT X) 10 m code (nI c B s mo th v k pv a++tl) E ⟨.normal,nI c B s mo th (.sl E.length 0 N 0) k pv a,E++[some ob2]⟩:=by
 refine⟨_,rfl,?_⟩;have w1:IntKind.u64.wrap (x.length:Int)=(x.length:Int):=wrap_u64 (by omega) (by omega);have e3:(((3:Nat):Nat):Int)=3:=rfl;rw[e3]at e;rcases hN with rfl|⟨z,ob,rfl,h1,h2⟩
 .simp only[nI];generalize hL:x.length=L at *;apply Pe;simp[-getElem?_pos,go_sem,hL,w1,e,ak]
 .have hg:=h2.g;simp only[nI];generalize hL:x.length=L at *;apply Pe;simp[-getElem?_pos,go_sem,hL,w1,e,h1,hg,ak]
def adW{m s mo th k a N g:Nat}{v pv:AV}{E E':AM.Heap}(hs:s<256)(hA:bG X E 22 v (.ro 1 (.pb [UInt8.ofNat s]) 0)=some (.sl N 0 g 1,E')) :
 ∃ code,Try.f10.body.bind (ay [1,1,1,0,0,0,1,0,1,1,1,1,0])=some code/\Run X (evT X) 10 m code (nI c B s mo th v k pv a) E ⟨.normal,nI c B s mo th (.sl N 0 g 1) k pv a,E'⟩:=by
 refine⟨_,rfl,?_⟩;have hbs:=bsW E (UInt8.ofNat s);rw[show(UInt8.ofNat s).toNat=s by rw[ayU];omega]at hbs;simp only[nI];generalize UInt8.ofNat s=y at *;apply Pe;simp[-getElem?_pos,go_sem,hbs,hA,ak]
def adX{m s mo th k a N:Nat}{v pv:AV}{E:AM.Heap}{ob2:AM.Obj}(ha:a<=100000)(e:evT X 26 [v,.int .u64 (a:Nat),.int .i64 (3:Nat)] E=some (.tup [.sl E.length 0 N 0,.int .i64 0],E++[some ob2])) :
 ∃ code,Try.f10.body.bind (ay [1,1,1,0,0,0,1,0,1,1,1,1,1,0])=some code/\Run X (evT X) 10 m code (nI c B s mo th v k pv a) E ⟨.normal,aa6 c B s mo th (.sl E.length 0 N 0) k pv,E++[some ob2]⟩:=by
 refine⟨_,rfl,?_⟩;have w1:IntKind.u64.wrap (a:Int)=(a:Int):=wrap_u64 (by omega) (by omega);have e3:(((3:Nat):Nat):Int)=3:=rfl;rw[e3]at e;simp only[nI,aa6];apply Pe;simp[-getElem?_pos,go_sem,w1,e,ak]
def adY{m s mo th k:Nat}{v pv v':AV}{E E':AM.Heap}(hA:bG X E 22 v pv=some (v',E'))(hv:∃ o n g,v'=.sl o 0 n g) :
 ∃ code,Try.f10.body.bind (ay [1,1,1,0,0,0,1,0,1,1,1,1,1,1,0])=some code/\Run X (evT X) 10 m code (aa6 c B s mo th v k pv) E ⟨.normal,qH c B s mo th v'++[(12,.int .i64 (k:Nat))],E'⟩:=by
 refine⟨_,rfl,?_⟩;obtain⟨o,n,g,rfl⟩:=hv;simp only[aa6,qH];apply Pe;simp[-getElem?_pos,go_sem,hA,ak]
def adZ{m s mo th k:Nat}{v:AV}{E:AM.Heap}:∃ code,Try.f10.body.bind (ay [1,1,1,0,0,0,1,0,1,1,1,1,1,1,1,0])=some code/\Run X (evT X) 10 m code (qH c B s mo th v++[(12,.int .i64 (k:Nat))]) E ⟨.normal,qH c B ((s+1)%256) mo th v++[(12,.int .i64 (k:Nat))],E⟩:=by
 refine⟨_,rfl,?_⟩;have w1:IntKind.u8.wrap ((s:Int)+1)=(((s+1)%256:Nat):Int):=by show((s:Int)+1)%256=_;omega
 generalize (s + 1) % 256=s1 at *;simp only[qH];apply Pe;simp[-getElem?_pos,go_sem,w1]
def ad1{m s mo th k:Nat}{v:AV}{E:AM.Heap}(hc:c≠0)(hk:k<=B.length)(hb:B.length<=100000):∃ code,Try.f10.body.bind (ay [1,1,1,0,0,0,1,0,1,1,1,1,1,1,1,1])=some code/\Run X (evT X) 10 m code (qH c B s mo th v++[(12,.int .i64 (k:Nat))]) E ⟨.normal,qH c (B.drop k) s mo th v,E⟩:=by
 refine⟨_,rfl,?_⟩;have hkI:(k:Int)<=(B.length:Int):=by omega
 have hz:gq (.pb B) k (B.length-k)=some (.pb (B.drop k)):=by
  simp[gq];constructor
  .omega
  .rw [aym (by simp)]
 simp only[qH];generalize B.drop k=P at *;generalize hL:B.length=L at *;apply Pe;simp[-getElem?_pos,go_sem,hL,gY,bound,hk,hkI,hz,hc,ak]
def YE{m s mo th o g:Nat}{l:List UInt8}{ob:AM.Obj}{E:AM.Heap}(hc:c≠0)(hb:B.length<=10000)(hp:min B.length mo<=1400)(hl:l.length<=100000)(hs:s<256)(hm:mo<=16777215)(ho:E[o]?=some (some ob))(hw:Rw (.pb l) g ob)(hne:0<(B.take mo).length) :
 ∃ o' g' ob' E',E'[o']?=some (some ob')/\Rw (.pb (l++sqH s (sqP th (B.take mo)))) g' ob'/\∃ code,Try.f10.body.bind (ay [1,1,1,0,0,0,1])=some code/\Run X (evT X) 10 m code (qH c B s mo th (.sl o 0 l.length g)++[(36,.bool true)]) E ⟨.normal,qH c (B.drop mo) ((s+1)%256) mo th (.sl o' 0 (l++sqH s (sqP th (B.take mo))).length g'),E'⟩:=by
 have h5:=ah0 (m:=m) (c:=c) (B:=B) (s:=s) (mo:=mo) (th:=th) (v:=.sl o 0 l.length g) (tl:=[(36,.bool true)]) (E:=E) (by omega) hm;have h6:=ah1 (m:=m) (c:=c) (B:=B) (s:=s) (mo:=mo) (th:=th) (k:=min B.length mo) (v:=.sl o 0 l.length g) (E:=E) hc (Nat.min_le_left _ _) (by omega);rw[YC]at h6;have hpl:(B.take mo).length<=1400:=by rw[ayc];omega
 obtain⟨R,pv,tl,hpv,hpk⟩:=aa5 (m:=m) (c:=c) (B:=B) (s:=s) (mo:=mo) (th:=th) (k:=min B.length mo) (v:=.sl o 0 l.length g) (p:=B.take mo) (E:=E) (by rw[ayc,Nat.min_comm]) hpl;have hx:=JX (th:=th) (p:=B.take mo);have hxn:(sqP th (B.take mo)).1≠[]:=by
  unfold sqP;split
  .unfold jI;simp
  .intro e;simp only at e;rw[e]at hne;simp at hne
 unfold sqH;generalize sqP th (B.take mo)=x at *;have ho1:(E++R)[o]?=some (some ob):=by rw[axL (eX ho)];exact ho
 generalize E++R=E1 at *;obtain⟨ob2,w2,e2⟩:=YF (H:=E1) (a:=.sl o 0 l.length g) (b:=l) (x:=x.1.length) (n:=3) (Byt.whole ho1 hw) (by omega) (by omega) (by omega) (by omega);have h11:=adV (m:=m) (c:=c) (B:=B) (s:=s) (mo:=mo) (th:=th) (k:=min B.length mo) (a:=x.2) (tl:=tl) hpv (by omega) e2;have hpv2:=hpv.keep (E':=E1++[some ob2]) fun j hj=>axL hj;have k2:(E1++[some ob2])[E1.length]?=some (some ob2):=ayl;have l2:=kU 3 x.1.length;obtain⟨ob3,w3,hA3⟩:=Dc (C:=X) (T:=22) (e:=5) (H:=E1++[some ob2]) (o:=E1.length) (g:=0) (ob:=ob2) (l:=l++leB 3 x.1.length) (m:=[UInt8.ofNat s]) (src:=.ro 1 (.pb [UInt8.ofNat s]) 0) lM Ai nO bytes5 vN k2 w2 (.inl (by simp[gJ,jq,kH])) (by simp[l2];omega);have hn2:(l++leB 3 x.1.length).length=l.length+3:=by rw[axR,l2]
 rw[hn2]at hA3;have h12:=adW (m:=m) (c:=c) (B:=B) (s:=s) (mo:=mo) (th:=th) (k:=min B.length mo) (a:=x.2) (pv:=pv) hs hA3;have hlt2:∀ j,j<E1.length->(AM.upd (E1++[some ob2]) E1.length (some ob3))[j]?=E1[j]?:=fun j hj=>by
  unfold AM.upd;rw[axU (by omega),axL hj]
 have arO:=hpv.keep hlt2;have k3:(AM.upd (E1++[some ob2]) E1.length (some ob3))[E1.length]?=some (some ob3):=setAt k2;generalize AM.upd (E1++[some ob2]) E1.length (some ob3)=E2 at *;generalize hL3:l++leB 3 x.1.length++[UInt8.ofNat s]=L3 at *;have hn3:L3.length=l.length+3+[UInt8.ofNat s].length:=by rw[<- hL3,axR,hn2]
 rw[<- hn3]at h12;obtain⟨ob4,w4,e4⟩:=YF (H:=E2) (a:=.sl E1.length 0 L3.length (0+1)) (b:=L3) (x:=x.2) (n:=3) (Byt.whole k3 w3) (by rw[hn3];simp;omega) (by omega) (by omega) (by omega);have h13:=adX (m:=m) (c:=c) (B:=B) (s:=s) (mo:=mo) (th:=th) (k:=min B.length mo) (pv:=pv) (by omega) e4;have k4:(E2++[some ob4])[E2.length]?=some (some ob4):=ayl;have arP:=arO.keep (E':=E2++[some ob4]) fun j hj=>axL hj;have l4:=kU 3 x.2;have hn4:(L3++leB 3 x.2).length=L3.length+3:=by rw[axR,l4]
 obtain⟨ob5,w5,hA5⟩:=Dc (C:=X) (T:=22) (e:=5) (H:=E2++[some ob4]) (o:=E2.length) (g:=0) (ob:=ob4) (l:=L3++leB 3 x.2) (m:=x.1) (src:=pv) lM Ai nO bytes5 vN k4 w4 (.inl arP.src) (by rw[hn4,hn3];simp;omega);rw[hn4]at hA5;have h14:=adY (m:=m) (c:=c) (B:=B) (s:=s) (mo:=mo) (th:=th) (k:=min B.length mo) hA5 ⟨_,_,_,rfl⟩;have hout:l++(leB 3 x.1.length++[UInt8.ofNat s]++leB 3 x.2++x.1)=L3++leB 3 x.2++x.1:=by rw[<- hL3];simp
 have hlen5:(L3++leB 3 x.2++x.1).length=L3.length+3+x.1.length:=by rw[axR,hn4]
 rw[hout];have h15:=adZ (m:=m) (c:=c) (B:=B) (s:=s) (mo:=mo) (th:=th) (k:=min B.length mo) (v:=.sl E2.length 0 (L3.length+3+x.1.length) (0+1)) (E:=AM.upd (E2++[some ob4]) E2.length (some ob5));have h16:=ad1 (m:=m) (c:=c) (B:=B) (s:=(s+1)%256) (mo:=mo) (th:=th) (k:=min B.length mo) (v:=.sl E2.length 0 (L3.length+3+x.1.length) (0+1)) (E:=AM.upd (E2++[some ob4]) E2.length (some ob5)) hc (Nat.min_le_left _ _) (by omega);rw[YD]at h16;refine⟨E2.length,0+1,ob5,AM.upd (E2++[some ob4]) E2.length (some ob5),setAt k4,w5,_,rfl,?_⟩;rw[hlen5];refine Run.block ?_ (by simp);apply Run.seq (piece h5 _ rfl);apply Run.seq (piece h6 _ rfl);apply Run.seq (piece hpk _ rfl);apply Run.seq (piece h11 _ rfl);apply Run.seq (piece h12 _ rfl);apply Run.seq (piece h13 _ rfl);apply Run.seq (piece h14 _ rfl);apply Run.seq (piece h15 _ rfl);exact piece h16 _ rfl
end
def Qm(c c2:Nat)(a b:List UInt8):∃ code,Try.f12.body=some code /\
 Run X (evT X) 12 0 code [(0,.ro c (.pb a) 1),(1,.ro c2 (.pb b) 2)] [] ⟨.ret,[(4,.bool (a==b))],[]⟩:=by
 refine⟨_,rfl,0,?_⟩;simp[-getElem?_pos,go_sem,uF,Tf]
def coD{p:AV}{b:List UInt8}{c t:Nat}{r:List AV}{ts:List TypeId}(hp:PB p b):coerce X (.ro c p t::r) (22::ts)=.ro c (.pb b) t::coerce X r ts:=by
 rcases hp with rfl|⟨rfl,rfl⟩
 .simp [coerce]
 .simp [coerce,dh]
def Na{H:AM.Heap}{a a2:AV}{l m:List UInt8}(h:Byt H a l)(h2:Byt H a2 m):evT X 12 [a,a2] H=some (.bool (l==m),H):=by
 obtain⟨c2,p2,x2,hp2,_,hx2⟩:=sD (C:=X) (f:=12) (i:=1) rfl h2 (dR 2);obtain⟨c,p,x,hp,_,hx⟩:=sD (C:=X) (f:=12) (i:=0) rfl h hx2;obtain⟨code,hcode,hr⟩:=Qm c c2 l m;refine dI (Ev1.rU (l:=[.bool (l==m)]) (bC X) Try.func12 hcode hx (by simp[aC,ids,hp.ids,hp2.ids]) (by simp[dA]) rfl rfl rfl ?_);rw[af9,coD hp,coD hp2];exact⟨_,⟨rfl,rfl⟩,hr⟩
end Go.Proofs.Ytbodincpjijdiaa
