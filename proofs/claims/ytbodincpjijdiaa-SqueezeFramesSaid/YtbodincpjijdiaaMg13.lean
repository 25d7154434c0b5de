/- YQA to YHC: texts of this claim, one behind the other; what each shows stands at its head. -/
import Derived.Test.YtbodincpjijdiaaAm4
import Derived.Test.YtbodincpjijdiaaMg12
set_option linter.defProp false
set_option linter.unusedSimpArgs false
set_option linter.unusedVariables false
set_option maxRecDepth 100000
set_option maxHeartbeats 8000000
namespace Go.Proofs.Ytbodincpjijdiaa
open Go.AM
variable {mm:Nat}
def qU(s:Rd):Rd:=if s.wi then s else { s with wi:=true,sq:=s.nx }
def jh(s:Rd)(n:Nat):Rd:={ qU s with body:=s.body++(s.rest.drop 4).take n,rest:=s.rest.drop (4+n),nx:=(s.nx+1)%256 }
def DY(s:Rd):(qU s).rest=s.rest:=by unfold qU;split<;>rfl
def JV(s:Rd):(qU s).body=s.body:=by unfold qU;split<;>rfl
def Uj(s:Rd):(qU s).nx=s.nx:=by unfold qU;split<;>rfl
def Zq(s:Rd):(qU s).m=s.m:=by unfold qU;split<;>rfl
def ab5(s:Rd):(qU s).wi=true:=by
 unfold qU;split
 .assumption
 .rfl
def ab6(s:Rd)(n:Nat):{ qU s with body:=(qU s).body++((qU s).rest.drop 4).take n,rest:=(qU s).rest.drop (4+n),nx:=((qU s).nx+1)%256 }=jh s n:=by
 unfold jh;rw[DY,JV,Uj]
def fdL:Nat->Rd->List Pk->Rd×List Pk×Int
 | 0,s,out=>(s,out,0)
 | f+1,s,out=>
  if s.rest.length<4 then(s,out,0)else
  if ckE s≠0 then({ s with st:=ckE s },out,ckE s)else
  if s.rest.length<4+leV (s.rest.take 3)then(s,out,0)else
  if leV (s.rest.take 3)<s.m then fdL f { jh s (leV (s.rest.take 3))with body:=[],wi:=false } (out++[⟨(jh s (leV (s.rest.take 3))).sq,(jh s (leV (s.rest.take 3))).nx,(jh s (leV (s.rest.take 3))).body⟩])
  else fdL f (jh s (leV (s.rest.take 3))) out
def Off(O a:Nat)(oc:Option Nat):Prop:=0<O/\O≠a/\∀ c,oc=some c->c≠O
def PkR.keep{t:Nat}{H H':AM.Heap}{O n g:Nat}{out:List Pk}(h:PkR t H O n g out)(hk:H'[O]?=H[O]?):PkR t H' O n g out:=by
 obtain⟨l,ob,τ,h1,h2,h3,h4,h5⟩:=h;exact⟨l,ob,τ,h1,h2,h3,by rw[hk];exact h4,h5⟩
def PkR.lt{t:Nat}{H:AM.Heap}{O n g:Nat}{out:List Pk}(h:PkR t H O n g out):O<H.length:=by
 obtain⟨l,ob,τ,h1,h2,h3,h4,h5⟩:=h;exact jo h4
section
variable {H:AM.Heap}{s:Rd}{a:Nat}{oc:Option Nat}
def ab7(O N g n:Nat)(tl:AM.Frame)(htl:tl=[]\/tl=[(58,.bool false)])(out:List Pk)(h:RdI 3 H s a oc)(hout:PkR 3 H O N g out)(hoff:Off O a oc)(hn:4+n<=s.rest.length)(hrl:s.rest.length<=1000000)(hbl:s.body.length<=1000000)(hnx:s.nx<256)(wi:s.wi=true) :
 ∃ H' c,RdI 3 H' { s with body:=s.body++(s.rest.drop 4).take n,rest:=s.rest.drop (4+n),nx:=(s.nx+1)%256 } a (some c)/\PkR 3 H' O N g out/\Off O a (some c)/\H.length<=H'.length/\(oc=some c\/(oc=none/\c=H.length))/\(∀ j,j≠0->oc≠some j->j<H.length->H'[j]?=H[j]?) /\
  ∀ (ab8 ab9 acd:Code),Try.f24.body.bind (ay [1,1,1,1,0,0,0,1,0,1,1,1,1,0])=some ab8->Try.f24.body.bind (ay [1,1,1,1,0,0,0,1,0,1,1,1,1,1,0])=some ab9->Try.f24.body.bind (ay [1,1,1,1,0,0,0,1,0,1,1,1,1,1,1,0])=some acd->∀ Q rest,aj Q X (evT X) 24 mm rest (gU O N g [(7,.int .i64 (n:Nat))]) H'->aj Q X (evT X) 24 mm (.seq ab8 (.seq ab9 (.seq acd rest))) (gU O N g ((7,.int .i64 (n:Nat))::tl)) H:=by
 obtain⟨⟨vr,vb,τ,hτ,h0,⟨off,ga,τ1,oa,L,hτ1,rfl,ha,hwa,hl,hle,ai1⟩,hb⟩,a0⟩:=h;have hrlen:s.rest.length=(L.drop off).length:=by rw[hl]
 have hL:off+s.rest.length=L.length:=by rw[hrlen,axW];omega
 obtain⟨O0,Oa,Oc⟩:=hoff;have hOl:=hout.lt;have hpc:((L.drop off).drop 4).take n=(s.rest.drop 4).take n:=by rw[hl]
 have hdr:L.drop (off+(4+n))=s.rest.drop (4+n):=by rw[<- hl,azc]
 have hrl2:(s.rest.drop (4+n)).length=s.rest.length-(4+n):=by rw[axW]
 cases oc with
 | none=>
  obtain⟨τ2,hτ2,rfl,hbody⟩:=hb;have r15:=abb (mm:=mm) (s:=s) (τ:=τ) O N g n tl htl a off s.rest.length ga τ2 oa L h0 ha hwa.p hwa.g hwa.ids hn hL (by omega);rw[hpc]at r15;have hHl:0<H.length:=jo h0;have hal:=jo ha;have k0:(upd (H++[some (⟨.pb ((s.rest.drop 4).take n),0,.none,0,true,false,0⟩:AM.Obj)]) 0 (some (aX s (.sl a off s.rest.length ga) (.sl H.length 0 n 0) τ)))[0]?=some (some (aX s (.sl a off s.rest.length ga) (.sl H.length 0 n 0) τ)):=at_set (KO h0);have ka:(upd (H++[some (⟨.pb ((s.rest.drop 4).take n),0,.none,0,true,false,0⟩:AM.Obj)]) 0 (some (aX s (.sl a off s.rest.length ga) (.sl H.length 0 n 0) τ)))[a]?=some (some oa):=oN (KO ha) (by omega);have kc:(upd (H++[some (⟨.pb ((s.rest.drop 4).take n),0,.none,0,true,false,0⟩:AM.Obj)]) 0 (some (aX s (.sl a off s.rest.length ga) (.sl H.length 0 n 0) τ)))[H.length]?=some (some ⟨.pb ((s.rest.drop 4).take n),0,.none,0,true,false,0⟩):=oN (by simp) (by omega);have kO:(upd (H++[some (⟨.pb ((s.rest.drop 4).take n),0,.none,0,true,false,0⟩:AM.Obj)]) 0 (some (aX s (.sl a off s.rest.length ga) (.sl H.length 0 n 0) τ)))[O]?=H[O]?:=by unfold upd;rw[axU (by omega),axL hOl]
  have kj:∀ j,j≠0->j<H.length->(upd (H++[some (⟨.pb ((s.rest.drop 4).take n),0,.none,0,true,false,0⟩:AM.Obj)]) 0 (some (aX s (.sl a off s.rest.length ga) (.sl H.length 0 n 0) τ)))[j]?=H[j]?:=by intro j h0 hj;unfold upd;rw[axU (by omega),axL hj]
  have kl:(upd (H++[some (⟨.pb ((s.rest.drop 4).take n),0,.none,0,true,false,0⟩:AM.Obj)]) 0 (some (aX s (.sl a off s.rest.length ga) (.sl H.length 0 n 0) τ))).length=H.length+1:=by simp[upd]
  generalize upd (H++[some (⟨.pb ((s.rest.drop 4).take n),0,.none,0,true,false,0⟩:AM.Obj)]) 0 (some (aX s (.sl a off s.rest.length ga) (.sl H.length 0 n 0) τ))=H1 at *;have r16:=YR (mm:=mm) (s:=s) (vb:=.sl H.length 0 n 0) (τ:=τ) O N g n a off s.rest.length ga oa L k0 ka hwa.p hwa.g hn hL (by omega);have m0:(upd H1 0 (some (aX s (.sl a (off+(4+n)) (s.rest.length-(4+n)) ga) (.sl H.length 0 n 0) τ)))[0]?=_:=at_set k0;have r17:=YS (mm:=mm) (s:=s) (τ:=τ) O N g n hnx m0;have hup:upd (upd H1 0 (some (aX s (.sl a (off+(4+n)) (s.rest.length-(4+n)) ga) (.sl H.length 0 n 0) τ))) 0 (some (aX { s with nx:=(s.nx+1)%256 } (.sl a (off+(4+n)) (s.rest.length-(4+n)) ga) (.sl H.length 0 n 0) τ))=upd H1 0 (some (aX { s with nx:=(s.nx+1)%256 } (.sl a (off+(4+n)) (s.rest.length-(4+n)) ga) (.sl H.length 0 n 0) τ)):=by unfold upd;simp
  rw[hup]at r17;have hpl:((s.rest.drop 4).take n).length=n:=by rw[ayc,axW];omega
  refine⟨upd H1 0 (some (aX { s with nx:=(s.nx+1)%256 } (.sl a (off+(4+n)) (s.rest.length-(4+n)) ga) (.sl H.length 0 n 0) τ)),H.length,⟨⟨.sl a (off+(4+n)) (s.rest.length-(4+n)) ga,.sl H.length 0 n 0,τ,hτ,at_set k0,⟨off+(4+n),ga,τ1,oa,L,hτ1,by rw[hrl2],oN ka (by omega),hwa,hdr,by omega,ai1⟩,⟨0,0,0,_,(s.rest.drop 4).take n,.inl rfl,by rw[hbody,ax8,hpl],oN kc (by omega),⟨rfl,rfl,rfl,rfl,rfl⟩,by rw[hbody];simp,by omega,by rw[hpl];omega⟩,by omega,by omega⟩,a0⟩,hout.keep (by unfold upd;rw[axU (by omega),kO]),⟨O0,Oa,fun c hc=>by cases hc;omega⟩,by simp[upd,kl],.inr ⟨rfl,rfl⟩,fun j h0 _ hj=>by unfold upd;rw[axU (by omega),kj j h0 hj],?_⟩;intro ab8 ab9 acd e15 e16 e17 Q rest ht;apply aj.seq (piece r15 _ e15);apply aj.seq (piece r16 _ e16);apply aj.seq (piece r17 _ e17);exact ht
 | some c=>
  obtain⟨⟨off2,gc,τ2,ob,L2,hτ2,rfl,hc,hwc,hl2,hle2,av4⟩,c0,ca⟩:=hb;have hOc:=Oc c rfl;obtain⟨ob',hw',r15⟩:=abd (mm:=mm) (s:=s) (τ:=τ) O N g n tl htl a off s.rest.length ga c off2 s.body.length gc τ2 oa ob L L2 h0 ha hwa.p hwa.g hwa.ids hn hL (by omega) hc hwc (by rw[hl2]) hle2 (by omega) c0;rw[hpc,hl2]at hw';have k0:(upd (upd H c (some ob')) 0 (some (aX s (.sl a off s.rest.length ga) (.sl c 0 (s.body.length+n) (gc+1)) τ)))[0]?=some (some (aX s (.sl a off s.rest.length ga) (.sl c 0 (s.body.length+n) (gc+1)) τ)):=at_set (oN h0 (by omega));have ka:(upd (upd H c (some ob')) 0 (some (aX s (.sl a off s.rest.length ga) (.sl c 0 (s.body.length+n) (gc+1)) τ)))[a]?=some (some oa):=oN (oN ha ca) (by omega);have kc:(upd (upd H c (some ob')) 0 (some (aX s (.sl a off s.rest.length ga) (.sl c 0 (s.body.length+n) (gc+1)) τ)))[c]?=some (some ob'):=oN (at_set hc) (by omega);have kO:(upd (upd H c (some ob')) 0 (some (aX s (.sl a off s.rest.length ga) (.sl c 0 (s.body.length+n) (gc+1)) τ)))[O]?=H[O]?:=by unfold upd;rw[axU (by omega),axU hOc]
  have kj:∀ j,j≠0->j≠c->(upd (upd H c (some ob')) 0 (some (aX s (.sl a off s.rest.length ga) (.sl c 0 (s.body.length+n) (gc+1)) τ)))[j]?=H[j]?:=by intro j h0 hj;unfold upd;rw[axU (by omega),axU (by omega)]
  have kl:(upd (upd H c (some ob')) 0 (some (aX s (.sl a off s.rest.length ga) (.sl c 0 (s.body.length+n) (gc+1)) τ))).length=H.length:=by simp[upd]
  generalize upd (upd H c (some ob')) 0 (some (aX s (.sl a off s.rest.length ga) (.sl c 0 (s.body.length + n) (gc + 1)) τ))=H1 at *;have r16:=YR (mm:=mm) (s:=s) (vb:=.sl c 0 (s.body.length+n) (gc+1)) (τ:=τ) O N g n a off s.rest.length ga oa L k0 ka hwa.p hwa.g hn hL (by omega);have m0:(upd H1 0 (some (aX s (.sl a (off+(4+n)) (s.rest.length-(4+n)) ga) (.sl c 0 (s.body.length+n) (gc+1)) τ)))[0]?=_:=at_set k0;have r17:=YS (mm:=mm) (s:=s) (τ:=τ) O N g n hnx m0;have hup:upd (upd H1 0 (some (aX s (.sl a (off+(4+n)) (s.rest.length-(4+n)) ga) (.sl c 0 (s.body.length+n) (gc+1)) τ))) 0 (some (aX { s with nx:=(s.nx+1)%256 } (.sl a (off+(4+n)) (s.rest.length-(4+n)) ga) (.sl c 0 (s.body.length+n) (gc+1)) τ))=upd H1 0 (some (aX { s with nx:=(s.nx+1)%256 } (.sl a (off+(4+n)) (s.rest.length-(4+n)) ga) (.sl c 0 (s.body.length+n) (gc+1)) τ)):=by unfold upd;simp
  rw[hup]at r17;have hpl:(s.body++(s.rest.drop 4).take n).length=s.body.length+n:=by rw[axR,ayc,axW];omega
  refine⟨upd H1 0 (some (aX { s with nx:=(s.nx+1)%256 } (.sl a (off+(4+n)) (s.rest.length-(4+n)) ga) (.sl c 0 (s.body.length+n) (gc+1)) τ)),c,⟨⟨.sl a (off+(4+n)) (s.rest.length-(4+n)) ga,.sl c 0 (s.body.length+n) (gc+1),τ,hτ,at_set k0,⟨off+(4+n),ga,τ1,oa,L,hτ1,by rw[hrl2],oN ka (by omega),hwa,hdr,by omega,ai1⟩,⟨0,gc+1,τ2,ob',s.body++(s.rest.drop 4).take n,hτ2,by rw[hpl],oN kc (by omega),hw',by simp,by omega,by rw[hpl];omega⟩,c0,ca⟩,a0⟩,hout.keep (by unfold upd;rw[axU (by omega),kO]),⟨O0,Oa,Oc⟩,by simp[upd,kl],.inl rfl,fun j h0 hj _=>by unfold upd;rw[axU (by omega),kj j h0 (fun h=>hj (by rw[h]))],?_⟩;intro ab8 ab9 acd e15 e16 e17 Q rest ht;apply aj.seq (piece r15 _ e15);apply aj.seq (piece r16 _ e16);apply aj.seq (piece r17 _ e17);exact ht
end
variable {mm:Nat}
def SlO.ob{t:Nat}{H:AM.Heap}{a:Nat}{v:AV}{l:List UInt8}(h:SlO t H a v l):∃ ob L,H[a]?=some (some ob)/\ob.ids=false/\ob.p=.pb L/\(ob.tg=0\/ob.tg=t)/\ids v=[a]/\tags v=[]:=by
 obtain⟨off,g,τ,ob,L,hτ,rfl,ho,hw,_⟩:=h;exact⟨ob,L,ho,hw.ids,hw.p,by rw[hw.tg];exact hτ,by simp[ids],by simp[tags]⟩
def RdI.box{t:Nat}{H:AM.Heap}{s s':Rd}{a:Nat}{oc:Option Nat}(h:RdI t H s a oc)(hr:s'.rest=s.rest)(hb:s'.body=s.body) :
 ∃ vr vb τ,H[0]?=some (some (aX s vr vb τ))/\RdI t (upd H 0 (some (aX s' vr vb τ))) s' a oc:=by
 obtain⟨⟨vr,vb,τ,hτ,h0,hvr,hvb⟩,a0⟩:=h;refine⟨vr,vb,τ,h0,⟨vr,vb,τ,hτ,at_set h0,by rw[hr];exact hvr.ne (by omega),?_⟩,a0⟩;cases oc with
 | none=>simp only at hvb ⊢;rw[hb];exact hvb
 | some c=>
  simp only at hvb ⊢;exact⟨by rw[hb];exact hvb.1.ne (by have:=hvb.2.1;omega),hvb.2⟩
def Off.keep{H H':AM.Heap}{O a N g:Nat}{oc:Option Nat}{out:List Pk}(h:Off O a oc)(hout:PkR 3 H O N g out)(hk:∀ j,j≠0->j≠a->(∀ c,oc=some c->j≠c)->H'[j]?=H[j]?):PkR 3 H' O N g out :=
 hout.keep (hk O (by have:=h.1;omega) h.2.1 (fun c hc=>ax6 (h.2.2 c hc)))
def Off.ai2{H:AM.Heap}{O a N g:Nat}{oc:Option Nat}{out:List Pk}{x:Option AM.Obj}(h:Off O a oc)(hout:PkR 3 H O N g out):PkR 3 (upd H 0 x) O N g out :=
 hout.keep (by unfold upd;rw[axU (by have:=h.1;omega)])
structure FdB (s:Rd) (out:List Pk):Prop where
 nx:s.nx<256
 sz:s.rest.length+s.body.length+out.length<=900000
section
variable {H:AM.Heap}{s:Rd}{a:Nat}{oc:Option Nat}
def ai3(O N g:Nat)(tl:AM.Frame)(htl:tl=[]\/tl=[(106,.bool false)])(h:RdI 3 H s a oc) :
 ∃ code,Try.f24.body.bind (ay [1,1,1,1,0,0,0,0,0])=some code/\Run X (evT X) 24 mm code (gU O N g tl) H ⟨.normal,gU O N g [(32,.bool (decide (4<=s.rest.length)))],H⟩:=by
 refine⟨_,rfl,?_⟩;obtain⟨⟨vr,vb,τ,hτ,h0,⟨off,ga,τ1,oa,L,hτ1,rfl,ha,hwa,hl,hle,hLb⟩,hvb⟩,a0⟩:=h;have hg:=hwa.g;have hd:decide ((4:Int)<=(s.rest.length:Int))=decide (4<=s.rest.length):=by rw[decide_eq_decide];omega
 unfold gU;simp only[aX,Rd.pay]at h0;generalize s.rest.length=rl at *;rcases htl with rfl|rfl
 .by_cases h4:4<=rl
  .have h4I:(4:Int)<=(rl:Int):=by omega
   apply Pe;simp[-getElem?_pos,go_sem,h0,ha,hg,h4,h4I]
  .have h4I:¬ (4:Int)<=(rl:Int):=by omega
   apply Pe;simp[-getElem?_pos,go_sem,h0,ha,hg,h4,h4I]
 .by_cases h4:4<=rl
  .have h4I:(4:Int)<=(rl:Int):=by omega
   apply Pe;simp[-getElem?_pos,go_sem,h0,ha,hg,h4,h4I]
  .have h4I:¬ (4:Int)<=(rl:Int):=by omega
   apply Pe;simp[-getElem?_pos,go_sem,h0,ha,hg,h4,h4I]
def ae0(O N g n:Nat)(h:RdI 3 H s a oc)(hn:n<=16777216) :
 ∃ code,Try.f24.body.bind (ay [1,1,1,1,0,0,0,1,0,1,1,0,0])=some code/\Run X (evT X) 24 mm code (gU O N g [(7,.int .i64 (n:Nat)),(8,.int .i64 0),(39,.bool false)]) H ⟨.normal,gU O N g [(7,.int .i64 (n:Nat)),(53,.bool (decide (s.rest.length<4+n)))],H⟩:=by
 refine⟨_,rfl,?_⟩;obtain⟨⟨vr,vb,τ,hτ,h0,⟨off,ga,τ1,oa,L,hτ1,rfl,ha,hwa,hl,hle,hLb⟩,hvb⟩,a0⟩:=h;have hg:=hwa.g;have w4:IntKind.i64.wrap (4+(n:Int))=((4+n:Nat):Int):=by rw[wrap_i64 (by omega) (by omega)];omega
 unfold gU;simp only[aX,Rd.pay]at h0;generalize s.rest.length=rl at *;generalize 4 + n=n4 at *;by_cases h4:rl<n4
 .have h4I:(rl:Int)<(n4:Int):=by omega
  apply Pe;simp[-getElem?_pos,go_sem,h0,ha,hg,h4,h4I,w4]
 .have h4I:¬ (rl:Int)<(n4:Int):=by omega
  apply Pe;simp[-getElem?_pos,go_sem,h0,ha,hg,h4,h4I,w4]
def ae1(O N g n:Nat)(h:RdI 3 H s a oc) :
 ∃ code,Try.f24.body.bind (ay [1,1,1,1,0,0,0,1,0,1,1,1,0,0])=some code/\Run X (evT X) 24 mm code (gU O N g [(7,.int .i64 (n:Nat)),(53,.bool false)]) H ⟨.normal,gU O N g [(7,.int .i64 (n:Nat)),(58,.bool (!s.wi))],H⟩:=by
 refine⟨_,rfl,?_⟩;obtain⟨⟨vr,vb,τ,hτ,h0,hvr,hvb⟩,a0⟩:=h;unfold gU;simp only[aX,Rd.pay]at h0;cases hw:s.wi
 .rw [hw]at h0;apply Pe;simp[-getElem?_pos,go_sem,h0,unV]
 .rw [hw]at h0;apply Pe;simp[-getElem?_pos,go_sem,h0,unV]
def ae2(O N g n:Nat)(h:RdI 3 H s a oc) :
 ∃ code,Try.f24.body.bind (ay [1,1,1,1,0,0,0,1,0,1,1,1,1,1,1,1,0])=some code/\Run X (evT X) 24 mm code (gU O N g [(7,.int .i64 (n:Nat))]) H ⟨.normal,gU O N g [(106,.bool (decide (n<s.m)))],H⟩:=by
 refine⟨_,rfl,?_⟩;obtain⟨⟨vr,vb,τ,hτ,h0,hvr,hvb⟩,a0⟩:=h;unfold gU;simp only[aX,Rd.pay]at h0;by_cases h4:n<s.m
 .have h4I:(n:Int)<(s.m:Int):=by omega
  apply Pe;simp[-getElem?_pos,go_sem,h0,h4,h4I]
 .have h4I:¬ (n:Int)<(s.m:Int):=by omega
  apply Pe;simp[-getElem?_pos,go_sem,h0,h4,h4I]
def ae3(O N g:Nat)(e:Int)(vr vb:AV)(τ:Nat)(tl:AM.Frame)(x:AV)(h0:H[0]?=some (some (aX s vr vb τ))) :
 ∃ code,Try.f24.body.bind (ay [1,1,1,1,0,0,0,1,0,1,0,1,0,0])=some code/\Run X (evT X) 24 mm code (gU O N g [(7,x),(8,.int .i64 e),(39,.bool true)]) H ⟨.normal,[(6,.sl O 0 N g),(8,.int .i64 e)],upd H 0 (some (aX { s with st:=e } vr vb τ))⟩:=by
 refine⟨_,rfl,?_⟩;unfold gU;simp only[aX,Rd.pay]at h0;apply Pe;simp[-getElem?_pos,go_sem,h0,aX,Rd.pay]
end
variable {mm:Nat}
section
variable {H:AM.Heap}{s:Rd}{a:Nat}{oc:Option Nat}
def ace(O N g c:Nat)(out:List Pk)(h:RdI 3 H s a (some c))(hout:PkR 3 H O N g out)(hoff:Off O a (some c))(hN:N<=1000000) :
 ∃ H',RdI 3 H' { s with body:=[],wi:=false } a none/\PkR 3 H' O (N+1) (g+1) (out++[⟨s.sq,s.nx,s.body⟩])/\Off O a none/\H'.length=H.length/\H'[c]?=some none/\(∀ j,j≠0->j≠O->j≠c->H'[j]?=H[j]?) /\
  ∀ (ae4 ae5:Code),Try.f24.body.bind (ay [1,1,1,1,0,0,0,1,0,1,1,1,1,1,1,1,1,0,0])=some ae4->Try.f24.body.bind (ay [1,1,1,1,0,0,0,1,0,1,1,1,1,1,1,1,1,0,1])=some ae5->Run X (evT X) 24 mm (.seq ae4 ae5) (gU O N g [(106,.bool true)]) H ⟨.normal,gU O (N+1) (g+1) [],H'⟩:=by
 obtain⟨⟨vr,vb,τ,hτ,h0,hvr,⟨⟨off2,gc,τ2,ob,L2,hτ2,rfl,hc,hwc,hl2,hle2,U3⟩,c0,ca⟩⟩,a0⟩:=h;obtain⟨O0,Oa,Oc⟩:=hoff;have hcO:=Oc c rfl;have hbl:s.body.length+off2=L2.length:=by rw[<- hl2,axW];omega
 have htk:(L2.drop off2).take s.body.length=s.body:=by rw[hl2,ayM]
 obtain⟨H',q1,q2,q3,qc,r19⟩:=aed (mm:=mm) (s:=s) (vr:=vr) (τ:=τ) O N g out c off2 s.body.length gc τ2 ob L2 h0 hc hwc hτ2 (by omega) (by rw[htk]) hout hN c0 hcO O0;rw[htk]at q1;have k0:H'[0]?=some (some (aX s vr (.sl c off2 s.body.length gc) τ)):=by rw[q2 0 (by omega) (by omega)];exact h0
 have r20:=aee (mm:=mm) (s:=s) (vr:=vr) (τ:=τ) (.sl c off2 s.body.length gc) O (N+1) (g+1) k0;refine⟨upd H' 0 (some (aX { s with wi:=false } vr (.ro 0 .pn 0) τ)),⟨⟨vr,.ro 0 .pn 0,τ,hτ,at_set k0,?_,0,.inl rfl,rfl,rfl⟩,a0⟩,q1.keep (by unfold upd;rw[axU (by omega)]),⟨O0,Oa,fun c hc=>by cases hc⟩,by simp[upd,q3],oN qc (by omega),fun j h1 h2 h3=>by unfold upd;rw[axU (by omega),q2 j h2 h3],?_⟩
 .obtain ⟨off,ga,τ1,oa,L,hτ1,e1,ha,hr⟩:=hvr;exact⟨off,ga,τ1,oa,L,hτ1,e1,oN (by rw[q2 a (ax6 Oa) (ax6 ca)];exact ha) (by omega),hr⟩
 .intro ae4 ae5 e19 e20;exact Run.seq (piece r19 _ e19) (piece r20 _ e20)
def ai4{H1:AM.Heap}(O N g n:Nat)(e:Int)(hc:evT X 33 [.ptr 0 0 0 0] H=some (.tup [.int .i64 (n:Nat),.int .i64 e],H1)) :
 ∃ code,Try.f24.body.bind (ay [1,1,1,1,0,0,0,1,0,0])=some code/\Run X (evT X) 24 mm code (gU O N g [(32,.bool true)]) H ⟨.normal,gU O N g [(7,.int .i64 (n:Nat)),(8,.int .i64 e)],H1⟩:=by
 refine⟨_,rfl,?_⟩;unfold gU;apply Pe;simp[-getElem?_pos,go_sem,hc,ak]
def ai5(O N g n:Nat)(e:Int) :
 ∃ code,Try.f24.body.bind (ay [1,1,1,1,0,0,0,1,0,1,0,0])=some code/\Run X (evT X) 24 mm code (gU O N g [(7,.int .i64 (n:Nat)),(8,.int .i64 e)]) H ⟨.normal,gU O N g [(7,.int .i64 (n:Nat)),(8,.int .i64 e),(39,.bool (e != 0))],H⟩:=by
 refine⟨_,rfl,?_⟩;unfold gU;by_cases he:e=0
 .have h1:(e==0)=true:=by simp[he]
  apply Pe;simp[-getElem?_pos,go_sem,h1]
 .have h1:(e==0)=false:=by simp[he]
  apply Pe;simp[-getElem?_pos,go_sem,h1]
end
def Kp(oc0 oc:Option Nat)(H:AM.Heap):Prop:=∀ c,oc0=some c->oc=some c\/H[c]?=some none
def fdQ(a:Nat)(oc0:Option Nat)(x:Rd×List Pk×Int)(fr:AM.Frame)(H:AM.Heap):Prop:=∃ O g oc,aB fr 4=.sl O 0 x.2.1.length g/\aB fr 5=.int .i64 x.2.2/\RdI 3 H x.1 a oc/\PkR 3 H O x.2.1.length g x.2.1/\Off O a oc/\Kp oc0 oc H
def fdP(a:Nat)(oc0:Option Nat)(x:Rd×List Pk×Int)(fr:AM.Frame)(H:AM.Heap):Prop:=∃ O g oc tl,fr=gU O x.2.1.length g tl/\(tl=[(32,.bool false)]\/∃ v,tl=[(7,v),(53,.bool true)])/\x.2.2=0/\RdI 3 H x.1 a oc/\PkR 3 H O x.2.1.length g x.2.1/\Off O a oc/\Kp oc0 oc H
def acf{H0:AM.Heap}(s0:Rd)(a0 O0 g0:Nat)(oc0:Option Nat)(IU:List Pk)(f0:Nat)(h0:RdI 3 H0 s0 a0 oc0)(ai6:PkR 3 H0 O0 IU.length g0 IU)(ai7:Off O0 a0 oc0)(hB0:FdB s0 IU)(hf0:s0.rest.length<f0) :
 ∃ code,Try.f24.body.bind (ay [1,1,1,1,0])=some code /\
  aj (Or2 (fdP a0 oc0 (fdL f0 s0 IU)) (fun o=>o.ex=.ret/\fdQ a0 oc0 (fdL f0 s0 IU) o.fr o.H)) X (evT X) 24 mm code (gU O0 IU.length g0 []) H0:=by
 refine⟨_,rfl,?_⟩;refine(aj.AY (Q:=fun o=>o.ex=.ret/\fdQ a0 oc0 (fdL f0 s0 IU) o.fr o.H) (P:=fdP a0 oc0 (fdL f0 s0 IU)) ?_);refine aj.jP (fun k fr H=>∃ s O g oc out f tl,k=s.rest.length/\fr=gU O out.length g tl/\(tl=[]\/tl=[(106,.bool false)])/\RdI 3 H s a0 oc/\PkR 3 H O out.length g out/\Off O a0 oc/\FdB s out/\s.rest.length<f/\fdL f0 s0 IU=fdL f s out/\Kp oc0 oc H) ?_ (k:=s0.rest.length) ⟨s0,O0,g0,oc0,IU,f0,[],rfl,rfl,.inl rfl,h0,ai6,ai7,hB0,hf0,rfl,fun c h=>.inl h⟩;have hoc:∀ c,oc0=some c->c≠0/\c≠a0:=by intro c hc;subst hc;obtain⟨⟨_,_,_,_,_,_,hb⟩,_⟩:=h0;exact⟨by have:=hb.2.1;omega,hb.2.2⟩
 generalize a0=a at *;rintro k fr H ⟨s,O,g,oc,out,f,tl,rfl,rfl,htl,h,hout,hoff,hB,hf,hX,hK⟩;rw[hX];obtain⟨f,rfl⟩:∃ f',f=f'+1:=⟨f-1,by omega⟩;obtain⟨hBn,hBs⟩:=hB;apply aj.assoc;apply aj.seq (piece (ai3 O out.length g tl htl h) _ rfl);by_cases h4:4<=s.rest.length
 .rw [show decide (4<=s.rest.length)=true from decide_eq_true h4];apply aj.seq (fr':=gU O out.length g [(32,.bool true)]) (H':=H)
  .exact Run.cond (d:=true) rfl ⟨0,rfl⟩
  refine aj.blk ?_ (by
   rintro o (⟨h,_⟩|⟨_,⟨h,_⟩|⟨h,_⟩⟩)
   .rw [h];simp
   .rw [h];simp
   .rw [h];simp)
  obtain⟨H1,hev,h1,hlen1,hk1⟩:=aif h h4 (by omega) (by omega) hBn;have hout1:=hoff.keep hout hk1;have hK1:Kp oc0 oc H1:=by
   intro c hc;rcases hK c hc with h|hn
   .exact .inl h
   .refine .inr ?_;obtain⟨e1,e2⟩:=hoc c hc;rw[hk1 c e1 e2 (fun c' hc' e=>by
     subst hc' e;obtain⟨⟨_,_,_,_,_,_,hb⟩,_⟩:=h;obtain⟨ob,L,ho,_⟩:=hb.1.ob;rw[ho]at hn;cases hn)]
    exact hn
  apply aj.seq (piece (ai4 O out.length g _ _ hev) _ rfl);apply aj.assoc;apply aj.seq (piece (ai5 O out.length g (ckN s) (ckE s)) _ rfl);by_cases he:ckE s=0
  .have hn:ckN s=leV (s.rest.take 3):=by unfold ckN;rw[if_pos he]
   have hlv:leV (s.rest.take 3)<16777216:=by have:=KQ (s.rest.take 3);rw[ayc,ayG (by omega)]at this;simpa using this
   rw[hn,he];obtain⟨n,hnn⟩:∃ n,n=leV (s.rest.take 3):=⟨_,rfl⟩;rw[<- hnn]at hlv ⊢;apply aj.seq (fr':=gU O out.length g [(7,.int .i64 (n:Nat)),(8,.int .i64 0),(39,.bool false)]) (H':=H1)
   .exact Run.cond (d:=false) rfl ⟨0,rfl⟩
   apply aj.assoc;apply aj.seq (piece (ae0 O out.length g n h1 (by omega)) _ rfl);by_cases hsh:s.rest.length<4+n
   .rw [show decide (s.rest.length<4+n)=true from decide_eq_true hsh];have hR:fdL (f+1) s out=(s,out,0):=by rw[fdL,if_neg (by omega),if_neg (by simpa using he),<- hnn,if_pos hsh]
    rw[hR];refine aj.of (o:=⟨.exit 1,gU O out.length g [(7,.int .i64 (n:Nat)),(53,.bool true)],H1⟩) (Run.bK (Run.cond (d:=true) rfl ⟨0,rfl⟩) (by simp)) (.inr ⟨by simp,.inl ⟨rfl,O,g,oc,_,rfl,.inr ⟨_,rfl⟩,rfl,h1,hout1,hoff,hK1⟩⟩)
   rw[show decide (s.rest.length<4+n)=false from decide_eq_false hsh];apply aj.seq (fr':=gU O out.length g [(7,.int .i64 (n:Nat)),(53,.bool false)]) (H':=H1)
   .exact Run.cond (d:=false) rfl ⟨0,rfl⟩
   apply aj.assoc;apply aj.seq (piece (ae1 O out.length g n h1) _ rfl);obtain⟨H2,tl2,asJ,h2,hout2,hK2,hlt2,hr2⟩:∃ H2 tl2,(tl2=[]\/tl2=[(58,.bool false)])/\RdI 3 H2 (qU s) a oc/\PkR 3 H2 O out.length g out/\Kp oc0 oc H2/\(∀ j,H2[j]?=some none->j<H2.length)/\∀ acg,Try.f24.body.bind (ay [1,1,1,1,0,0,0,1,0,1,1,1,0,1,0])=some acg->Run X (evT X) 24 mm (.cond (.tmp 58) acg .skip) (gU O out.length g [(7,.int .i64 (n:Nat)),(58,.bool (!s.wi))]) H1 ⟨.normal,gU O out.length g ((7,.int .i64 (n:Nat))::tl2),H2⟩:=by
    cases hw:s.wi with
    | true=>
     have e1:qU s=s:=by unfold qU;rw[if_pos hw]
     refine⟨H1,[(58,.bool false)],.inr rfl,by rw[e1];exact h1,hout1,hK1,fun j h=>jo h,fun acg e14=>Run.cond (d:=false) rfl ⟨0,rfl⟩⟩
    | false=>
     have e1:qU s={ s with wi:=true,sq:=s.nx }:=by unfold qU;rw[if_neg (by simp[hw])]
     obtain⟨vr,vb,τ,k0,hb⟩:=h1.box (s':={ s with wi:=true,sq:=s.nx }) rfl rfl;refine⟨_,[],.inl rfl,by rw[e1];exact hb,hoff.ai2 hout1,fun c hc=>(hK1 c hc).imp id (fun h=>oN h (ax6 (hoc c hc).1)),fun j h=>jo h,fun acg e14=>Run.cond (d:=true) rfl (piece (aeb O out.length g n k0) _ e14)⟩
   apply aj.seq (hr2 _ rfl);obtain⟨H3,c,h3,ZW,ac7,hlen3,hcn,hk3,hr3⟩:=ab7 (mm:=mm) O out.length g n tl2 asJ out h2 hout2 hoff (by rw[DY];omega) (by rw[DY];omega) (by rw[JV];omega) (by rw[Uj];exact hBn) (ab5 s);rw[ab6]at h3;have hK3:Kp oc0 (some c) H3:=by
    intro c' hc;rcases hK2 c' hc with h|hn
    .rcases hcn with h' | ⟨h',_⟩
     .exact .inl (by rw[<- h',h])
     .rw [h']at h;cases h
    .refine .inr ?_;rw[hk3 c' (hoc c' hc).1 (fun e=>by
      subst e;obtain⟨⟨_,_,_,_,_,_,hb⟩,_⟩:=h2;obtain⟨ob,L,ho,_⟩:=hb.1.ob;rw[ho]at hn;cases hn) (hlt2 _ hn)]
     exact hn
   refine hr3 _ _ _ rfl rfl rfl _ _ ?_;apply aj.seq (piece (ae2 O out.length g n h3) _ rfl);have hm2:(jh s n).m=s.m:=Zq s;rw[hm2];have hb2:(jh s n).body=s.body++(s.rest.drop 4).take n:=rfl;have hrr:(jh s n).rest=s.rest.drop (4+n):=rfl;have hrl:(jh s n).rest.length=s.rest.length-(4+n):=by rw[hrr,axW]
   have hbl:(jh s n).body.length=s.body.length+n:=by rw[hb2,axR,ayc,axW];omega
   have hnx2:(jh s n).nx<256:=azS _ (by omega);by_cases hm:n<s.m
   .rw [show decide (n<s.m)=true from decide_eq_true hm];obtain⟨H4,h4,ai8,ai9,av5,aja,hk4,hr4⟩:=ace (mm:=mm) O out.length g c out h3 ZW ac7 (by omega);have hR:fdL (f+1) s out=fdL f { jh s n with body:=[],wi:=false } (out++[⟨(jh s n).sq,(jh s n).nx,(jh s n).body⟩]):=by rw[fdL,if_neg (by omega),if_neg (by simpa using he),<- hnn,if_neg hsh,if_pos hm]
    rw[hR];have hol:(out++[(⟨(jh s n).sq,(jh s n).nx,(jh s n).body⟩:Pk)]).length=out.length+1:=by simp
    refine aj.of (Run.cond (d:=true) rfl (hr4 _ _ rfl rfl)) (.inl ⟨rfl,(jh s n).rest.length,by rw[hrl];omega,{ jh s n with body:=[],wi:=false },O,g+1,none,_,f,[],rfl,by rw[hol],.inl rfl,h4,by rw[hol];exact ai8,ai9,⟨hnx2,?_⟩,?_,rfl,?_⟩)
    .rw [hol];simp only[ax3];rw[hrl];omega
    .show (jh s n).rest.length<f;rw[hrl];omega
    .intro c' hc;refine .inr ?_;rcases hK3 c' hc with h|hn
     .obtain rfl:=axN h;exact aja
     .by_cases e:c'=c
      .rw [e];exact aja
      .show H4[c']?=some none;rw[hk4 c' (hoc c' hc).1 (fun e2=>by
        subst e2;obtain⟨l,ob,τ,_,_,_,ho,_⟩:=ZW;rw[ho]at hn;cases hn) e]
       exact hn
   .rw [show decide (n<s.m)=false from decide_eq_false hm];have hR:fdL (f+1) s out=fdL f (jh s n) out:=by rw[fdL,if_neg (by omega),if_neg (by simpa using he),<- hnn,if_neg hsh,if_neg hm]
    rw[hR];refine aj.of (o:=⟨.normal,gU O out.length g [(106,.bool false)],H3⟩) (Run.cond (d:=false) rfl ⟨0,rfl⟩) (.inl ⟨rfl,(jh s n).rest.length,by rw[hrl];omega,jh s n,O,g,some c,out,f,_,rfl,rfl,.inr rfl,h3,ZW,ac7,⟨hnx2,by rw[hrl,hbl];omega⟩,by rw[hrl];omega,rfl,hK3⟩)
  .have hR:fdL (f+1) s out=({ s with st:=ckE s },out,ckE s):=by rw[fdL,if_neg (by omega),if_pos (by simpa using he)]
   rw[hR];rw[show(ckE s != 0)=true by simpa using he];obtain⟨vr,vb,τ,k0,hb⟩:=h1.box (s':={ s with st:=ckE s }) rfl rfl;have r10:=ae3 (mm:=mm) (s:=s) O out.length g (ckE s) vr vb τ [] (.int .i64 (ckN s:Nat)) k0;generalize hHU:upd H1 0 (some (aX { s with st:=ckE s } vr vb τ))=HU at *;have ajb:PkR 3 HU O out.length g out:=by rw[<- hHU];exact hoff.ai2 hout1
   refine aj.of (o:=⟨.ret,[(4,.sl O 0 out.length g),(5,.int .i64 (ckE s))],HU⟩) (Run.bK (Run.cond (d:=true) rfl ?_) (by simp)) (.inr ⟨by simp,.inr ⟨rfl,rfl,O,g,oc,rfl,rfl,hb,ajb,hoff,fun c hc=>(hK1 c hc).imp id (fun h=>by rw[<- hHU];exact oN h (ax6 (hoc c hc).1))⟩⟩);refine Run.seq (piece r10 _ rfl) ⟨0,?_⟩;generalize ckE s=e at *;simp[-getElem?_pos,go_sem,ak]
 .rw [show decide (4<=s.rest.length)=false from decide_eq_false h4];have hR:fdL (f+1) s out=(s,out,0):=by rw[fdL,if_pos (by omega)]
  rw[hR];refine aj.of (o:=⟨.exit 1,gU O out.length g [(32,.bool false)],H⟩) (Run.bK (Run.cond (d:=false) rfl ⟨0,rfl⟩) (by simp)) (.inr ⟨by simp,.inl ⟨rfl,O,g,oc,_,rfl,.inl rfl,rfl,h,hout,hoff,hK⟩⟩)
section
variable {s:Rd}{m:Nat}
def Rz(vr vb:AV)(E:AM.Heap)(τ:Nat)(h0:E[0]?=some (some (aX s vr vb τ)))(hm:0<s.m):∃ code,Try.f32.body=some code /\
 Run X (evT X) 32 m code [(0,.ptr 0 0 0 0)] E ⟨.ret,[(2,.bool false)],E⟩:=by
 refine⟨_,rfl,0,?_⟩;have h1:((s.m:Int)==0)=false:=by simp;omega
 have h2:s.m≠0:=by omega
 simp[-getElem?_pos,go_sem,h0,aX,Rd.pay,h1,h2,ak,isNil,jW]
end
section
variable {s:Rd}(c:Nat)(b:List UInt8)
end
def G9{t:Nat}:∀ {l:List Pk} {m:List AV},PkL t l m->∀ k∈aW m,k=0\/k=t
 | [],[],_,k,hk=>by simp[aW]at hk
 | p::r,v::l,h,k,hk=>by
  obtain⟨⟨cb,τ,hτ,_,_,rfl⟩,h⟩:=h;simp only[aW,tags,ax1,ax8,axV,ax2,ayK,or_false]at hk;rcases hk with hk|hk
  .rw [hk];exact hτ
  .exact G9 h k hk
 | [],_::_,h,_,_=>h.elim
 | _::_,[],h,_,_=>h.elim
def TM{t t2:Nat}{ρ:Nat->Nat->Option (Nat×Nat)}{τ:Nat->Nat}(h0:τ 0=0\/τ 0=t2)(ht:τ t=0\/τ t=t2):∀ {l:List Pk} {m:List AV},PkL t l m->PkL t2 l (bU ρ τ m)
 | [],[],_=>trivial
 | p::r,v::l,h=>by
  obtain⟨⟨cb,τ1,hτ,h1,h2,rfl⟩,h⟩:=h;refine⟨⟨cb,τ τ1,?_,h1,h2,?_⟩,TM h0 ht h⟩
  .rcases hτ with rfl|rfl
   .exact h0
   .exact ht
  .simp [ren,bU]
 | [],_::_,h=>h.elim
 | _::_,[],h=>h.elim
def ach{E:AM.Heap}{O a:Nat}{ob oa oo:AM.Obj}(h0:E[0]?=some (some ob))(hi:ob.ids=true)(hid:ids ob.p=[a])(ha:E[a]?=some (some oa))(hai:oa.ids=false)(hO:E[O]?=some (some oo))(hOi:oo.ids=false)(a0:0<a)(O0:0<O)(Oa:O≠a):reach E aA [0,O] []=[0,a,O]:=by
 show reach E (99995+1+1+1+1+1) [0,O] []=[0,a,O];have e1:a≠0:=by omega
 have e2:O≠0:=by omega
 simp[reach,h0,hi,hid,ha,hai,hO,hOi,e1,e2,Oa]
def aci{E:AM.Heap}{O a c:Nat}{ob oa oc oo:AM.Obj}(h0:E[0]?=some (some ob))(hi:ob.ids=true)(hid:ids ob.p=[a,c])(ha:E[a]?=some (some oa))(hai:oa.ids=false)(hc:E[c]?=some (some oc))(hci:oc.ids=false)(hO:E[O]?=some (some oo))(hOi:oo.ids=false)(a0:0<a)(c0:0<c)(ca:c≠a)(O0:0<O)(Oa:O≠a)(Oc:c≠O):reach E aA [0,O] []=[0,a,c,O]:=by
 show reach E (99994+1+1+1+1+1+1) [0,O] []=[0,a,c,O];have e1:a≠0:=by omega
 have e2:O≠0:=by omega
 have e3:c≠0:=by omega
 simp[reach,h0,hi,hid,ha,hai,hc,hci,hO,hOi,e1,e2,e3,ca,Oa,ax6 Oc]
def ajc(E:AM.Heap)(O:Nat):Prop:=∃ new,(reach E aA [0,O] []).filter (fun o=>decide (1<=o))=new/\(∃ i,∀ k,idxOf new O k=some (k+i)/\new[i]?=some O)/\∀ k,(k<1\/k∈new)->∀ ob,aP E k=some ob->okTags 3 ob/\∀ l,ob.p≠.pm l
def RdI.new{E:AM.Heap}{s:Rd}{a O N g:Nat}{oc:Option Nat}{out:List Pk}(h:RdI 3 E s a oc)(hout:PkR 3 E O N g out)(hoff:Off O a oc) :
 ajc E O:=by
 show ∃ new,(reach E aA [0,O] []).filter (fun o=>decide (1<=o))=new/\(∃ i,∀ k,idxOf new O k=some (k+i)/\new[i]?=some O)/\∀ k,(k<1\/k∈new)->∀ ob,aP E k=some ob->okTags 3 ob/\∀ l,ob.p≠.pm l;obtain⟨⟨vr,vb,τ,hτ,h0,hr,hb⟩,a0⟩:=h;obtain⟨oa,L,ha,hai,hap,hat,hvi,hvt⟩:=hr.ob;obtain⟨l,oo,τo,hτo,hf,hN,ho,hw⟩:=hout;obtain⟨O0,Oa,Oc⟩:=hoff;have okO:okTags 3 oo/\∀ l,oo.p≠.pm l:=⟨⟨by rw[hw.p];exact G9 hf,by rw[hw.tg];exact hτo⟩,by rw[hw.p];simp⟩;have oka:okTags 3 oa/\∀ l,oa.p≠.pm l:=⟨⟨by rw[hap];simp[tags],hat⟩,by rw[hap];simp⟩;cases oc with
 | none=>
  obtain⟨τb,hτb,rfl,_⟩:=hb;have hR:=ach (O:=O) h0 rfl (by show ids (s.pay _ _)=_;rw[Nh,hvi];simp[ids]) ha hai ho hw.ids a0 O0 Oa;refine⟨[a,O],?_,⟨1,fun k=>⟨?_,rfl⟩⟩,?_⟩
  .rw [hR];simp[show 1<=a from a0,show 1<=O from O0]
  .simp [idxOf,ax6 Oa]
  .intro k hk ob hob;rcases hk with hk|hk
   .have:k=0:=by omega
    subst this;simp only[aP,h0,Option.join_some,axH]at hob;have hob:aX s vr (.ro 0 .pn τb) τ=ob:=by simpa using hob
    subst hob;exact⟨⟨by show ∀ t∈tags (s.pay _ _),_;rw[Dj,hvt];simp[tags];exact hτb,hτ⟩,by simp[aX,Rd.pay]⟩
   .simp only[ax2,ayK,or_false]at hk;rcases hk with rfl|rfl
    .have hob:oa=ob:=by simpa[aP,ha]using hob
     rw[<- hob];exact oka
    .have hob:oo=ob:=by simpa[aP,ho]using hob
     rw[<- hob];exact okO
 | some c=>
  obtain⟨hbo,c0,ca⟩:=hb;obtain⟨ob2,L2,hc,hci,hcp,hct,asK,asL⟩:=hbo.ob;have okc:okTags 3 ob2/\∀ l,ob2.p≠.pm l:=⟨⟨by rw[hcp];simp[tags],hct⟩,by rw[hcp];simp⟩;have hcO:=Oc c rfl;have hR:=aci (O:=O) h0 rfl (by show ids (s.pay _ _)=_;rw[Nh,hvi,asK];rfl) ha hai hc hci ho hw.ids a0 c0 ca O0 Oa hcO;refine⟨[a,c,O],?_,⟨2,fun k=>⟨?_,rfl⟩⟩,?_⟩
  .rw [hR];simp[show 1<=a from a0,show 1<=O from O0,show 1<=c from c0]
  .simp [idxOf,ax6 Oa,hcO]
  .intro k hk ob hob;rcases hk with hk|hk
   .have:k=0:=by omega
    subst this;have hob:aX s vr vb τ=ob:=by simpa[aP,h0]using hob
    subst hob;exact⟨⟨by show ∀ t∈tags (s.pay _ _),_;rw[Dj,hvt,asL];simp,hτ⟩,by simp[aX,Rd.pay]⟩
   .simp only[ax2,ayK,or_false]at hk;rcases hk with rfl|rfl|rfl
    .have hob:oa=ob:=by simpa[aP,ha]using hob
     rw[<- hob];exact oka
    .have hob:ob2=ob:=by simpa[aP,hc]using hob
     rw[<- hob];exact okc
    .have hob:oo=ob:=by simpa[aP,ho]using hob
     rw[<- hob];exact okO
def SlC(t:Nat)(H:AM.Heap)(o:Nat)(oa:Option Nat)(v:AV)(l:List UInt8):Prop:=match oa with
 | none=>SlN t v l
 | some a=>SlO t H a v l/\a≠o
structure RdC (t:Nat) (H:AM.Heap) (o:Nat) (s:Rd) (oa oc:Option Nat):Prop where
 bx:∃ vr vb τ,(τ=0\/τ=t)/\H[o]?=some (some (aX s vr vb τ))/\SlC t H o oa vr s.rest/\SlC t H o oc vb s.body
 ne:∀ a c,oa=some a->oc=some c->a≠c
 fr:oa=none->oc=none
def RdC.rdI{t:Nat}{H:AM.Heap}{s:Rd}{a:Nat}{oc:Option Nat}(h:RdC t H 0 s (some a) oc):RdI t H s a oc:=by
 obtain⟨⟨vr,vb,τ,hτ,h0,hr,hb⟩,hne,_⟩:=h;refine⟨⟨vr,vb,τ,hτ,h0,hr.1,?_⟩,by have:=hr.2;omega⟩;cases oc with
 | none=>exact hb
 | some c=>exact⟨hb.1,by have:=hb.2;omega,ax6 (hne a c rfl rfl)⟩
def RdI.rdC{t:Nat}{H:AM.Heap}{s:Rd}{a:Nat}{oc:Option Nat}(h:RdI t H s a oc):RdC t H 0 s (some a) oc:=by
 obtain⟨⟨vr,vb,τ,hτ,h0,hr,hb⟩,a0⟩:=h;refine⟨⟨vr,vb,τ,hτ,h0,⟨hr,by omega⟩,?_⟩,?_,fun h=>by cases h⟩
 .cases oc with
  | none=>exact hb
  | some c=>exact⟨hb.1,by have:=hb.2.1;omega⟩
 .intro a' c h1 h2;obtain rfl:=axN h1;subst h2;exact ax6 hb.2.2
def SlC.ob{t:Nat}{H:AM.Heap}{o:Nat}{oa:Option Nat}{v:AV}{l:List UInt8}(h:SlC t H o oa v l):ids v=oa.toList/\(∀ k∈tags v,k=0\/k=t)/\(∀ a,oa=some a->∃ ob L,H[a]?=some (some ob)/\ob.ids=false/\ob.p=.pb L/\(ob.tg=0\/ob.tg=t)):=by
 cases oa with
 | none=>
  obtain⟨τ,hτ,rfl,_⟩:=h;exact⟨by simp[ids],by simpa[tags]using hτ,fun a h=>by cases h⟩
 | some a=>
  obtain⟨ob,L,h1,h2,h3,h4,h5,h6⟩:=h.1.ob;exact⟨by rw[h5];rfl,by rw[h6];simp,fun a' h=>by cases h;exact⟨ob,L,h1,h2,h3,h4⟩⟩
def SlC.ren{t t2:Nat}{H H':AM.Heap}{o o2:Nat}{oa oa2:Option Nat}{v:AV}{l:List UInt8}{ρ:Nat->Nat->Option (Nat×Nat)}{τ:Nat->Nat}(h:SlC t H o oa v l)(h0:τ 0=0\/τ 0=t2)(ht:τ t=0\/τ t=t2)
 (hn:oa=none->oa2=none)(hs:∀ a ob,oa=some a->H[a]?=some (some ob)->∃ a2 g2,oa2=some a2/\a2≠o2/\ρ a ob.g=some (a2,g2)/\H'[a2]?=some (some (aQ ρ τ g2 ob))):SlC t2 H' o2 oa2 (AM.ren ρ τ v) l:=by
 have hk:∀ k,(k=0\/k=t)->τ k=0\/τ k=t2:=by
  rintro k (rfl|rfl)
  .exact h0
  .exact ht
 cases oa with
 | none=>
  rw[hn rfl];obtain⟨k,hk',rfl,hl⟩:=h;exact⟨τ k,hk k hk',by simp[AM.ren],hl⟩
 | some a=>
  obtain⟨⟨off,g,k,ob,L,hk',rfl,ho,hw,h1,h2,h3⟩,hne⟩:=h;obtain⟨a2,g2,rfl,hne2,hρ,ho2⟩:=hs a ob rfl ho;rw[hw.g]at hρ;refine⟨⟨off,g2,τ k,aQ ρ τ g2 ob,L,hk k hk',by simp[AM.ren,hρ],ho2,⟨by simp[aQ,hw.p,AM.ren],rfl,hw.row,hw.ids,by simp[aQ,hw.tg]⟩,h1,h2,h3⟩,hne2⟩
def RdC.ren{t t2:Nat}{H H':AM.Heap}{o o2 g2:Nat}{s:Rd}{oa oa2 oc oc2:Option Nat}{ρ:Nat->Nat->Option (Nat×Nat)}{τ:Nat->Nat}{ob:AM.Obj}(h:RdC t H o s oa oc)(h0:τ 0=0\/τ 0=t2)(ht:τ t=0\/τ t=t2)
 (hob:H[o]?=some (some ob))(ho2:H'[o2]?=some (some (aQ ρ τ g2 ob)))(hg2:g2=0)
 (hna:oa=none->oa2=none)(hsa:∀ a ob,oa=some a->H[a]?=some (some ob)->∃ a2 g2,oa2=some a2/\a2≠o2/\ρ a ob.g=some (a2,g2)/\H'[a2]?=some (some (aQ ρ τ g2 ob)))
 (hnc:oc=none->oc2=none)(hsc:∀ a ob,oc=some a->H[a]?=some (some ob)->∃ a2 g2,oc2=some a2/\a2≠o2/\ρ a ob.g=some (a2,g2)/\H'[a2]?=some (some (aQ ρ τ g2 ob)))
 (hne:∀ a c,oa2=some a->oc2=some c->a≠c):RdC t2 H' o2 s oa2 oc2:=by
 obtain⟨⟨vr,vb,k,hk,hbx,hr,hb⟩,_,hfr⟩:=h;rw[hob]at hbx;obtain rfl:=axN (axN hbx);subst hg2;refine⟨⟨AM.ren ρ τ vr,AM.ren ρ τ vb,τ k,?_,?_,hr.ren h0 ht hna hsa,hb.ren h0 ht hnc hsc⟩,hne,?_⟩
 .rcases hk with rfl|rfl
  .exact h0
  .exact ht
 .rw [ho2];simp[aQ,aX,Rd.pay,AM.ren,bU]
 .intro h;cases oa with
  | none=>exact hnc (hfr rfl)
  | some a=>
   obtain⟨ob,L,h1,_⟩:=hr.ob.2.2 a rfl;obtain⟨a2,_,e,_⟩:=hsa a ob rfl h1;rw[h]at e;cases e
def rdπ(o:Nat)(oa oc:Option Nat):List Nat:=o::(oa.toList++oc.toList)
def RdC.into{t n:Nat}{H:AM.Heap}{o:Nat}{s:Rd}{oa oc:Option Nat}(h:RdC t H o s oa oc) :
 reach H aA [o] []=rdπ o oa oc/\(rdπ o oa oc).Nodup/\(∀ x∈rdπ o oa oc,x<H.length)/\bV H (rdπ o oa oc) o 0=some (0,0)/\(∃ t',bY (au ((rdπ o oa oc).map (aP H)))=some t'/\(t'=0\/t'=t)) /\
  RdC n ((rdπ o oa oc).map fun o'=>(aP H o').map (aQ (bV H (rdπ o oa oc)) (fun _=>n) 0)) 0 s (oa.map fun _=>1) (oc.map fun _=>2):=by
 obtain⟨⟨vr,vb,τ,hτ,h0,hr,hb⟩,hne,hfr⟩:=id h;obtain⟨ri,rt,ro⟩:=hr.ob;obtain⟨bi,bt,bo⟩:=hb.ob;have hl0:live H o 0=some (aX s vr vb τ):=by simp[live,h0,aX]
 have Bc:aP H o=some (aX s vr vb τ):=by simp[aP,h0]
 have hin0:∀ l,bV H (o::l) o 0=some (0,0):=fun l=>by simp[bV,hl0,idxOf]
 have pV:ids (aX s vr vb τ).p=oa.toList++oc.toList:=by show ids (s.pay _ _)=_;rw[Nh,ri,bi]
 have L8:∀ l:List Nat,(∀ k∈l,k=0\/k=t)->∃ t',bY l=some t'/\(t'=0\/t'=t):=by
  intro l;induction l with
  | nil=>intro _;exact⟨0,rfl,.inl rfl⟩
  | cons k r ih=>
   intro hl;obtain⟨t',h1,h2⟩:=ih fun k hk=>hl k (aya _ hk);obtain⟨t3,h3,h4⟩:=Nj (hl k (by simp)) h2;exact⟨t3,by simp[bY,h1,h4],h3⟩
 have ae6:∀ k∈dn (aX s vr vb τ),k=0\/k=t:=by
  intro k hk;have:k∈tags (s.pay vr vb):=by simpa[dn,aX]using hk
  rw[Dj,axV]at this;exact this.elim (rt k) (bt k)
 cases oa with
 | none=>
  obtain rfl:=hfr rfl;have hπ:rdπ o none none=[o]:=rfl;rw[hπ];refine⟨kV h0 (by rw[pV];rfl),by simp,by simpa using jo h0,hin0 _,?_,?_⟩
  .refine L8 _ ?_;simp only[ax9,aye,Bc,au,ax1];exact ae6
  .refine h.ren (.inr rfl) (.inr rfl) h0 (g2:=0) (by simp[Bc];rfl) rfl (fun h=>by rfl) (fun a ob h=>by cases h) (fun h=>by rfl) (fun a ob h=>by cases h) (fun a c h=>by cases h)
 | some a=>
  obtain⟨oba,L,ha,hai,hap,hat⟩:=ro a rfl;have hao:a≠o:=hr.2;have EI:aP H a=some oba:=by simp[aP,ha]
  have ajd:∀ k∈dn oba,k=0\/k=t:=by
   intro k hk;have:k=oba.tg:=by simpa[dn,hai,hap]using hk
   rw[this];exact hat
  cases oc with
  | none=>
   have hπ:rdπ o (some a) none=[o,a]:=rfl;rw[hπ];have Qo:bV H [o,a] a oba.g=some (1,0):=by simp[bV,live,ha,idxOf,ax6 hao]
   refine⟨YN h0 rfl (by rw[pV];rfl) ha hai hao,by simp[ax6 hao],?_,hin0 _,?_,?_⟩
   .intro x hx;simp only[ax2,ayK,or_false]at hx;rcases hx with rfl|rfl
    .exact jo h0
    .exact jo ha
   .refine L8 _ ?_;simp only[ax9,aye,Bc,EI,au,ax1];intro k hk;exact(axV.1 hk).elim (ae6 k) (ajd k)
   .refine h.ren (.inr rfl) (.inr rfl) h0 (g2:=0) (by simp[Bc];rfl) rfl (fun h=>by cases h) ?_ (fun h=>by rfl) (fun a ob h=>by cases h) (fun a c h h2=>by cases h2);intro a' ob h1 h2;cases h1;rw[ha]at h2;obtain rfl:=axN (axN h2);exact⟨1,0,rfl,by omega,Qo,by simp[EI]⟩
  | some c=>
   obtain⟨obc,L2,hc,hci,hcp,hct⟩:=bo c rfl;have hco:c≠o:=hb.2;have hac:a≠c:=hne a c rfl rfl;have U4:aP H c=some obc:=by simp[aP,hc]
   have asM:∀ k∈dn obc,k=0\/k=t:=by
    intro k hk;have:k=obc.tg:=by simpa[dn,hci,hcp]using hk
    rw[this];exact hct
   have hπ:rdπ o (some a) (some c)=[o,a,c]:=rfl;rw[hπ];have Qo:bV H [o,a,c] a oba.g=some (1,0):=by simp[bV,live,ha,idxOf,ax6 hao]
   have hinc:bV H [o,a,c] c obc.g=some (2,0):=by simp[bV,live,hc,idxOf,ax6 hco,hac]
   refine⟨YO h0 rfl (by rw[pV];rfl) ha hai hc hci hao hco (ax6 hac),by simp[ax6 hao,ax6 hco,hac],?_,hin0 _,?_,?_⟩
   .intro x hx;simp only[ax2,ayK,or_false]at hx;rcases hx with rfl|rfl|rfl
    .exact jo h0
    .exact jo ha
    .exact jo hc
   .refine L8 _ ?_;simp only[ax9,aye,Bc,EI,U4,au,ax1];intro k hk;simp only[axV]at hk;rcases hk with hk|hk|hk
    .exact ae6 k hk
    .exact ajd k hk
    .exact asM k hk
   .refine h.ren (.inr rfl) (.inr rfl) h0 (g2:=0) (by simp[Bc];rfl) rfl (fun h=>by cases h) ?_ (fun h=>by cases h) ?_ (fun a c h h2=>by cases h;cases h2;exact(by decide:(1:Nat)≠2))
    .intro a' ob h1 h2;cases h1;rw[ha]at h2;obtain rfl:=axN (axN h2);exact⟨1,0,rfl,by omega,Qo,by simp[EI]⟩
    .intro a' ob h1 h2;cases h1;rw[hc]at h2;obtain rfl:=axN (axN h2);exact⟨2,0,rfl,by omega,hinc,by simp[U4]⟩
def RdC.back{n t:Nat}{H E:AM.Heap}{π new:List Nat}{o:Nat}{s:Rd}{oa oc:Option Nat}(h:RdC n E 0 s oa oc)(hn:π.Nodup)(hlt:∀ x∈π,x<H.length)(hπ0:π[0]?=some o)(hg:∀ ob,aP H o=some ob->ob.g=0)
 (hma:∀ a,oa=some a->a<π.length\/(π.length<=a/\a∈new))(hmc:∀ c,oc=some c->c<π.length\/(π.length<=c/\c∈new)) :
 ∃ oa' oc',RdC t (bP (aY H π new E) (bk n t) H π E 0 π H++new.map fun o=>(aP E o).map (aQ (aY H π new E) (bk n t) 0)) o s oa' oc'/\(∀ a',oa'=some a'->∃ a,oa=some a/\At H π new a a')/\(∀ c',oc'=some c'->∃ c,oc=some c/\At H π new c c')/\(oa'=none->oa=none):=by
 obtain⟨⟨vr,vb,τ,hτ,h0,hr,hb⟩,hne,hfr⟩:=id h;have hb0:bk n t 0=0\/bk n t 0=t:=by unfold bk;split<;>simp
 have hbn:bk n t n=0\/bk n t n=t:=by unfold bk;simp
 have hp0:0<π.length:=jo hπ0;have hE0:aP E 0=some (aX s vr vb τ):=by simp[aP,h0]
 obtain⟨o',g',e1,e2,e3,e4⟩:=Gm (τ:=bk n t) (new:=new) hn hlt hE0 (.inl hp0);have hoo:o'=o:=by
  rcases e3 with⟨_,h⟩|⟨h,_⟩
  .rw [hπ0]at h;exact(axN h).symm
  .omega
 subst hoo;have hg0:g'=0:=by
  rw[e4 hp0];unfold dK;rw[hπ0];simp only[aX,if_true,ay0];cases hh:aP H o' with
  | none=>rfl
  | some ob=>exact hg ob hh
 have each:∀ (k:Nat),(k<π.length\/(π.length<=k/\k∈new))->k≠0->∀ ob,E[k]?=some (some ob)->∃ a2 g2,a2≠o'/\aY H π new E k ob.g=some (a2,g2)/\(bP (aY H π new E) (bk n t) H π E 0 π H++new.map fun o=>(aP E o).map (aQ (aY H π new E) (bk n t) 0))[a2]?=some (some (aQ (aY H π new E) (bk n t) g2 ob))/\At H π new k a2:=by intro k hk hk0 ob hob;obtain⟨a2,g2,f1,f2,f3,f4⟩:=Gm (τ:=bk n t) (new:=new) hn hlt (show aP E k=some ob by simp[aP,hob]) hk;exact⟨a2,g2,At.inj hn hlt f3 e3 hk0,f1,f2,f3⟩
 have asN:∃ oa',(oa=none->oa'=none)/\(∀ a ob,oa=some a->E[a]?=some (some ob)->∃ a2 g2,oa'=some a2/\a2≠o'/\aY H π new E a ob.g=some (a2,g2)/\(bP (aY H π new E) (bk n t) H π E 0 π H++new.map fun o=>(aP E o).map (aQ (aY H π new E) (bk n t) 0))[a2]?=some (some (aQ (aY H π new E) (bk n t) g2 ob)))/\(∀ a',oa'=some a'->∃ a,oa=some a/\At H π new a a')/\(oa'=none->oa=none):=by
  cases oa with
  | none=>exact⟨none,fun _=>rfl,fun a ob h=>(by cases h),fun a h=>(by cases h),fun _=>rfl⟩
  | some a=>
   obtain⟨ob,L,h1,_⟩:=hr.ob.2.2 a rfl;obtain⟨a2,g2,f1,f2,f3,f4⟩:=each a (hma a rfl) hr.2 ob h1;refine⟨some a2,fun h=>(by cases h),?_,fun a' h=>(by cases h;exact⟨a,rfl,f4⟩),fun h=>(by cases h)⟩;intro a' ob' h h';cases h;rw[h1]at h';obtain rfl:=axN (axN h');exact⟨a2,g2,rfl,f1,f2,f3⟩
 have asO:∃ oc',(oc=none->oc'=none)/\(∀ a ob,oc=some a->E[a]?=some (some ob)->∃ a2 g2,oc'=some a2/\a2≠o'/\aY H π new E a ob.g=some (a2,g2)/\(bP (aY H π new E) (bk n t) H π E 0 π H++new.map fun o=>(aP E o).map (aQ (aY H π new E) (bk n t) 0))[a2]?=some (some (aQ (aY H π new E) (bk n t) g2 ob)))/\(∀ a',oc'=some a'->∃ a,oc=some a/\At H π new a a'):=by
  cases oc with
  | none=>exact⟨none,fun _=>rfl,fun a ob h=>(by cases h),fun a h=>(by cases h)⟩
  | some a=>
   obtain⟨ob,L,h1,_⟩:=hb.ob.2.2 a rfl;obtain⟨a2,g2,f1,f2,f3,f4⟩:=each a (hmc a rfl) hb.2 ob h1;refine⟨some a2,fun h=>(by cases h),?_,fun a' h=>(by cases h;exact⟨a,rfl,f4⟩)⟩;intro a' ob' h h';cases h;rw[h1]at h';obtain rfl:=axN (axN h');exact⟨a2,g2,rfl,f1,f2,f3⟩
 obtain⟨oa',A1,A2,A3,A4⟩:=asN;obtain⟨oc',C1,C2,C3⟩:=asO;refine⟨oa',oc',h.ren hb0 hbn h0 e2 hg0 A1 A2 C1 C2 ?_,A3,C3,A4⟩;intro a' c' h1 h2;obtain⟨a,h3,h4⟩:=A3 a' h1;obtain⟨c,h5,h6⟩:=C3 c' h2;exact At.inj hn hlt h4 h6 (hne a c h3 h5)
def RdC.ok{t:Nat}{E:AM.Heap}{s:Rd}{o:Nat}{oa oc:Option Nat}(h:RdC t E o s oa oc){k:Nat}{ob:AM.Obj}(hk:k∈rdπ o oa oc)(hob:aP E k=some ob):okTags t ob/\∀ l,ob.p≠.pm l:=by
 obtain⟨⟨vr,vb,τ,hτ,h0,hr,hb⟩,hne,hfr⟩:=h;obtain⟨ri,rt,ro⟩:=hr.ob;obtain⟨bi,bt,bo⟩:=hb.ob;unfold rdπ at hk;simp only[ax2,axV,Option.mem_toList]at hk;rcases hk with rfl|hk|hk
 .have hob:aX s vr vb τ=ob:=by simpa[aP,h0]using hob
  subst hob;refine⟨⟨?_,hτ⟩,by simp[aX,Rd.pay]⟩;show ∀ k∈tags (s.pay vr vb),_;rw[Dj];intro k hk;exact(axV.1 hk).elim (rt k) (bt k)
 .obtain ⟨oba,L,ha,hai,hap,hat⟩:=ro k hk;have hob:oba=ob:=by simpa[aP,ha]using hob
  subst hob;exact⟨⟨by rw[hap];simp[tags],hat⟩,by rw[hap];simp⟩
 .obtain ⟨oba,L,ha,hai,hap,hat⟩:=bo k hk;have hob:oba=ob:=by simpa[aP,ha]using hob
  subst hob;exact⟨⟨by rw[hap];simp[tags],hat⟩,by rw[hap];simp⟩
def sW(o:Nat)(oa oc:Option Nat):(rdπ o oa oc).length=1+(oa.toList.length+oc.toList.length):=by
 unfold rdπ;simp;omega
def RdC.reach{n:Nat}{E:AM.Heap}{s:Rd}{oa oc:Option Nat}(h:RdC n E 0 s (oa.map fun _=>1) (oc.map fun _=>2)):AM.reach E aA (List.range (rdπ 0 oa oc).length) []=List.range (rdπ 0 oa oc).length:=by
 obtain⟨⟨vr,vb,τ,hτ,h0,hr,hb⟩,hne,hfr⟩:=h;obtain⟨ri,rt,ro⟩:=hr.ob;obtain⟨bi,bt,bo⟩:=hb.ob;have pV:ids (s.pay vr vb)=(oa.map fun _=>1).toList++(oc.map fun _=>2).toList:=by rw[Nh,ri,bi]
 cases oa with
 | none=>
  have:oc=none:=by cases oc with|none=>rfl|some c=>exact absurd (hfr rfl) (by simp)
  subst this;show AM.reach E (99997+1+1+1) [0] []=[0];simp only[Option.map_none,Option.toList_none,ax1]at pV;simp[AM.reach,h0,aX,pV]
 | some a=>
  obtain⟨oba,L,ha,hai,_⟩:=ro 1 rfl;cases oc with
  | none=>
   show AM.reach E (99996+1+1+1+1) [0,1] []=[0,1];simp at pV;simp[AM.reach,h0,aX,pV,ha,hai]
  | some c=>
   obtain⟨obc,L2,hc,hci,_⟩:=bo 2 rfl;show AM.reach E (99994+1+1+1+1+1+1) [0,1,2] []=[0,1,2];simp at pV;simp[AM.reach,h0,aX,pV,ha,hai,hc,hci]
def acj{f:Nat}{fn:Func}{code:Code}{t:Nat}{H:AM.Heap}{o:Nat}{s:Rd}{oa oc:Option Nat}{l:List AV}(hF:X.P.funcs[f]?=some fn)(hcode:fn.body=some code)(hrw:X.rw f 0=false)
 (hpar:numbered 0 (coerce X [.ptr 0 0 0 0] (aI X f))=[(0,.ptr 0 0 0 0)])(hri:aC l=[])(hrt:aW l=[])(hnt:dB l=true)
 (hrun:∀ E,RdC 2 E 0 s (oa.map fun _=>1) (oc.map fun _=>2)->aj (lG fun fr E'=>aT X fr E' fn.results.toList=some l/\RdC 2 E' 0 s (oa.map fun _=>1) (oc.map fun _=>2)) X (evT X) f (rdπ o oa oc).length code [(0,.ptr 0 0 0 0)] E)
 (h:RdC t H o s oa oc) :
 ∃ H',evT X f [.ptr o 0 0 0] H=some (aG l,H')/\RdC t H' o s oa oc/\H'.length=H.length/\∀ j,j∉rdπ o oa oc->H'[j]?=H[j]?:=by
 obtain⟨hπ,hnd,hlt,hin,⟨t',ht',htt⟩,hE⟩:=h.into (n:=2);have hlen:(rdπ o oa oc).length=(rdπ 0 oa oc).length:=by rw[sW,sW]
 obtain⟨⟨ex,fr,E⟩,⟨he,hres,hE'⟩,hr⟩:=hrun _ hE;simp only at he hres hE';subst he;have hK:AM.reach E aA (List.range (rdπ o oa oc).length++ids (aG l)) []=List.range (rdπ o oa oc).length:=by rw[iK hnt,hri,ax1,hlen];exact hE'.reach
 have hnew:(List.range (rdπ o oa oc).length).filter (fun o'=>decide ((rdπ o oa oc).length<=o'))=[]:=by rw[List.filter_eq_nil_iff];intro x hx;have:=ayh.1 hx;simp;omega
 have hEv:=Ev1.grp (C:=X) (f:=f) (H:=H) (o:=o) (n:=2) (t:=t') (π:=rdπ o oa oc) (new:=[]) (xs:=[]) (ys:=[]) (aN:=[]) (l:=l) (bC X) hF hcode hrw hπ hin (by rfl) rfl rfl rfl (by simp[dA]) ht'
  (by rw[hpar];exact hr) (.inr rfl) hres (by rw[hK];exact hnew) (by rw[gV hnt,hrt];intro k hk;cases hk)
  (by
   intro k hk ob hob;rcases hk with hk|hk
   .refine hE'.ok (k:=k) ?_ hob;rw[sW]at hk;unfold rdπ;have hfr:=h.fr;cases oa with
    | none=>
     rw[hfr rfl]at hk;simp at hk;simp[hk]
    | some a=>
     cases oc with
     | none=>
      simp at hk;have:k=0\/k=1:=by omega
      rcases this with rfl|rfl<;>simp
     | some c=>
      simp at hk;have:k=0\/k=1\/k=2:=by omega
      rcases this with rfl|rfl|rfl<;>simp
   .cases hk)
 have hπ0:(rdπ o oa oc)[0]?=some o:=rfl;have hg:∀ ob,aP H o=some ob->ob.g=0:=by
  intro ob hob;obtain⟨⟨vr,vb,τ,_,h0,_⟩,_⟩:=h;have:aX s vr vb τ=ob:=by simpa[aP,h0]using hob
  rw[<- this];rfl
 have hfr:=h.fr;obtain⟨oa',oc',b1,b2,b3,b4⟩:=hE'.back (t:=t') (H:=H) (π:=rdπ o oa oc) (new:=[]) hnd hlt hπ0 hg
  (by intro a ha;refine .inl ?_;cases oa with|none=>cases ha|some x=>cases ha;rw[sW];simp;omega)
  (by intro c hc;refine .inl ?_;cases oc with|none=>cases hc|some x=>cases hc;rw[sW];cases oa with|none=>exact absurd (hfr rfl) (by simp)|some y=>simp)
 have hoa:oa'=oa:=by
  cases oa with
  | none=>
   cases oa' with
   | none=>rfl
   | some a'=>obtain⟨a,h1,_⟩:=b2 a' rfl;cases h1
  | some x=>
   cases oa' with
   | none=>exact absurd (b4 rfl) (by simp)
   | some a'=>
    obtain⟨a,h1,h2⟩:=b2 a' rfl;cases h1;rcases h2 with⟨_,h2⟩|⟨h2,i,h3,_⟩
    .have:x=a':=by simpa[rdπ]using h2
     rw[this]
    .simp at h3
 have hoc:oc'=oc:=by
  cases oc with
  | none=>
   cases oc' with
   | none=>rfl
   | some a'=>obtain⟨a,h1,_⟩:=b3 a' rfl;cases h1
  | some x=>
   cases oa with
   | none=>exact absurd (hfr rfl) (by simp)
   | some y=>
    cases oc' with
    | none=>
     exfalso
     -- the body's slice is one still
     obtain⟨⟨vr,vb,τ,_,h0,_,hb⟩,_⟩:=b1;obtain⟨⟨vr2,vb2,τ2,_,h02,_,hb2⟩,_⟩:=hE';have hp:=kS (ρ:=aY H (rdπ o (some y) (some x)) [] E) (τ:=bk 2 t') (H:=H) (π:=rdπ o (some y) (some x)) (H1:=E) (rdπ o (some y) (some x)) 0 0 o H hnd hπ0 (hlt o (by simp[rdπ]));simp only[aye,ax1,ayg]at h0 hp;rw[h0]at hp;have hE0:aP E 0=some (aX s vr2 vb2 τ2):=by simp[aP,h02]
     rw[hE0]at hp;obtain⟨k,_,rfl,_⟩:=hb;obtain⟨⟨off,g,k2,ob,L,_,rfl,ho2,hw2,_⟩,_⟩:=hb2;simp only[axM,aQ,aX,Rd.pay,AM.ren,bU,axH,AM.Obj.mk.injEq,AV.pc.injEq,ay3]at hp;have hp5:=hp.1.2.2.2.2.1;have hl:live E 2 g=some ob:=by simp[live,ho2,hw2.g]
     simp[aY,hl,rdπ]at hp5
    | some a'=>
     obtain⟨a,h1,h2⟩:=b3 a' rfl;cases h1;rcases h2 with⟨_,h2⟩|⟨h2,i,h3,_⟩
     .have:x=a':=by simpa[rdπ]using h2
      rw[this]
     .simp at h3
 rw[hoa,hoc]at b1;have Yn:AM.ren (aY H (rdπ o oa oc) [] E) (bk 2 t') (aG l)=aG l:=gX _ (by rw[iK hnt];exact hri) (fun k hk=>by rw[gV hnt,hrt]at hk;cases hk);rw[Yn]at hEv;refine⟨_,dI hEv,?_,by simp[eH],?_⟩
 .obtain ⟨⟨vr,vb,τ,hτ,c1⟩,c2,c3⟩:=b1;rcases htt with rfl|rfl
  .obtain ⟨c11,c12,c13⟩:=c1;have wk:∀ {oo:Option Nat} {v:AV} {L:List UInt8},SlC 0 (bP (aY H (rdπ o oa oc) [] E) (bk 2 0) H (rdπ o oa oc) E 0 (rdπ o oa oc) H++[].map fun o=>(aP E o).map (aQ (aY H (rdπ o oa oc) [] E) (bk 2 0) 0)) o oo v L->SlC t (bP (aY H (rdπ o oa oc) [] E) (bk 2 0) H (rdπ o oa oc) E 0 (rdπ o oa oc) H++[].map fun o=>(aP E o).map (aQ (aY H (rdπ o oa oc) [] E) (bk 2 0) 0)) o oo v L:=by
    intro oo v L hs;cases oo with
    | none=>obtain⟨k,hk,h1⟩:=hs;exact⟨k,.inl (by omega),h1⟩
    | some a=>obtain⟨⟨off,g,k,ob,L,hk,h1⟩,h2⟩:=hs;exact⟨⟨off,g,k,ob,L,.inl (by omega),h1⟩,h2⟩
   exact⟨⟨vr,vb,τ,.inl (by omega),c11,wk c12,wk c13⟩,c2,c3⟩
  .exact ⟨⟨vr,vb,τ,hτ,c1⟩,c2,c3⟩
 .intro j hj;simp only[aye,ax1];rw[pF _ _ _ hj]
variable {mm:Nat}
def SlC.at0{t:Nat}{H H':AM.Heap}{o:Nat}{oa:Option Nat}{v:AV}{l:List UInt8}(h:SlC t H o oa v l)(hk:∀ a,oa=some a->H'[a]?=H[a]?):SlC t H' o oa v l:=by
 cases oa with
 | none=>exact h
 | some a=>
  obtain⟨⟨off,g,τ,ob,L,h1,h2,ho,h3⟩,hne⟩:=h;exact⟨⟨off,g,τ,ob,L,h1,h2,by rw[hk a rfl];exact ho,h3⟩,hne⟩
def ZX{t:Nat}{H:AM.Heap}{o:Nat}{s:Rd}{oa oc:Option Nat}(h:RdC t H o s oa oc)(hm:0<s.m) :
 ∃ H',evT X 32 [.ptr o 0 0 0] H=some (.bool false,H')/\RdC t H' o s oa oc/\H'.length=H.length/\∀ j,j∉rdπ o oa oc->H'[j]?=H[j]?:=by
 have hw:∀ E,RdC 2 E 0 s (oa.map fun _=>1) (oc.map fun _=>2)->∃ code,Try.f32.body=some code/\aj (lG fun fr E'=>aT X fr E' Try.f32.results.toList=some [.bool false]/\RdC 2 E' 0 s (oa.map fun _=>1) (oc.map fun _=>2)) X (evT X) 32 (rdπ o oa oc).length code [(0,.ptr 0 0 0 0)] E:=by intro E hE;obtain⟨⟨vr,vb,τ,_,h0,_⟩,_⟩:=id hE;obtain⟨code,hc,hr⟩:=Rz (s:=s) (m:=(rdπ o oa oc).length) vr vb E τ h0 hm;exact⟨code,hc,⟨_,⟨rfl,rfl,hE⟩,hr⟩⟩
 obtain⟨_,_,_,_,_,hE⟩:=h.into (n:=2);obtain⟨code,hc,_⟩:=hw _ hE;have:=acj (f:=32) (l:=[.bool false]) Try.func32 hc rfl (by rw[agj];rfl) rfl rfl rfl (fun E hE=>by
  obtain⟨nM,hc2,hr⟩:=hw E hE;rw[hc]at hc2;obtain rfl:=axN hc2;exact hr) h
 simpa[aG]using this
section
variable {H:AM.Heap}{s:Rd}{oa oc:Option Nat}(c:Nat)(b:List UInt8)
def aje{H1:AM.Heap}{vr vb:AV}{τ:Nat}(hn:evT X 32 [.ptr 0 0 0 0] H=some (.bool false,H1))(h0:H1[0]?=some (some (aX s vr vb τ)))(hst:s.st=0) :
 ∃ code,Try.f24.body.bind (ay [1,0])=some code/\Run X (evT X) 24 mm code [(0,.ptr 0 0 0 0),(1,.ro c (.pb b) 2)] H ⟨.normal,[(0,.ptr 0 0 0 0),(1,.ro c (.pb b) 2),(12,.bool false)],H1⟩:=by
 refine⟨_,rfl,0,?_⟩;simp only[aX,Rd.pay,hst]at h0;simp[-getElem?_pos,go_sem,hn,h0]
def ae7{H1:AM.Heap}{vr vb:AV}{τ:Nat}(hn:evT X 32 [.ptr 0 0 0 0] H=some (.bool false,H1))(h0:H1[0]?=some (some (aX s vr vb τ)))(hst:s.st≠0) :
 ∃ code,Try.f24.body.bind (ay [1,0])=some code/\Run X (evT X) 24 mm code [(0,.ptr 0 0 0 0),(1,.ro c (.pb b) 2)] H ⟨.ret,[(4,.sl H1.length 0 0 0),(5,.int .i64 9)],H1++[some vS]⟩:=by
 refine⟨_,rfl,0,?_⟩;have h1:(s.st==0)=false:=by simp[hst]
 simp only[aX,Rd.pay]at h0;simp[-getElem?_pos,go_sem,hn,h0,hst,h1,ak,emK]
def SlC.app{v:AV}{l:List UInt8}(h:SlC 3 H 0 oa v l)(hH:0<H.length)(hb:l.length+b.length<=900000):∃ a v' H',bG X H 22 v (.ro c (.pb b) 2)=some (v',H')/\SlO 3 H' a v' (l++b)/\0<a/\(oa=some a\/(oa=none/\a=H.length))/\(∀ j,j≠a->j<H.length->H'[j]?=H[j]?)/\(oa=none->H'.length=H.length+1)/\(∀ x,oa=some x->H'.length=H.length):=by
 have hsrc:gJ H (.ro c (.pb b) 2)=some (.pb b,0):=by simp[gJ,jq,kH]
 cases oa with
 | none=>
  obtain⟨τ,hτ,rfl,rfl⟩:=h;have hb2:b.length<=900000:=by simpa using hb
  have hroom:dQ X 5 b.length=true:=by simp[dQ];omega
  have hat:(H++[some (⟨.pb b,0,.none,0,true,false,0⟩:AM.Obj)])[H.length]?=some (some ⟨.pb b,0,.none,0,true,false,0⟩):=by simp
  refine⟨H.length,.sl H.length 0 b.length 0,H++[some ⟨.pb b,0,.none,0,true,false,0⟩],?_,⟨0,0,0,_,b,.inl rfl,rfl,hat,⟨rfl,rfl,rfl,rfl,rfl⟩,rfl,by omega,by omega⟩,hH,.inr ⟨rfl,rfl⟩,fun j h1 h2=>by rw[axL h2],fun _=>(by simp),fun x h=>(by cases h)⟩;simp only[bG,lM,nO,vN,hsrc];simp[jq,ah,hroom,l9,dh,aS]
 | some a=>
  obtain⟨⟨off,g,τ,ob,L,hτ,rfl,ho,hw,h1,h2,h3⟩,hne⟩:=h;obtain⟨ob',w1,w2⟩:=JY (C:=X) (T:=22) (e:=5) (src:=.ro c (.pb b) 2) lM Ai nO bytes5 vN ho hw h2 (.inl hsrc) (by omega);rw[h1]at w1 w2;refine⟨a,_,_,w2,⟨0,g+1,τ,ob',l++b,hτ,by rw[axR],at_set ho,w1,rfl,by omega,by simp;omega⟩,by omega,.inl rfl,fun j h1 h2=>by unfold upd;rw[axU (by omega)],fun h=>(by cases h),fun x _=>(by simp[upd])⟩
def ajf(h:RdC 3 H 0 s oa oc)(hb:s.rest.length+b.length<=900000):∃ a H',RdI 3 H' { s with rest:=s.rest++b } a oc/\(oa=some a\/(oa=none/\a=H.length))/\(oa=none->H'.length=H.length+1)/\(∀ x,oa=some x->H'.length=H.length) /\
 ∃ code,Try.f24.body.bind (ay [1,1,0])=some code/\Run X (evT X) 24 mm code [(0,.ptr 0 0 0 0),(1,.ro c (.pb b) 2),(12,.bool false)] H ⟨.normal,[(0,.ptr 0 0 0 0)],H'⟩:=by
 obtain⟨⟨vr,vb,τ,hτ,h0,hr,hbd⟩,hne,hfr⟩:=id h;obtain⟨a,v',H',hA,hS,a0,hoa,hk,hl1,hl2⟩:=hr.app c b (jo h0) hb;have hH:=jo h0;have k0:H'[0]?=some (some (aX s vr vb τ)):=by rw[hk 0 (by omega) hH];exact h0
 refine⟨a,upd H' 0 (some (aX { s with rest:=s.rest++b } v' vb τ)),⟨⟨v',vb,τ,hτ,at_set k0,hS.ne (by omega),?_⟩,a0⟩,hoa,fun h=>by rw[<- hl1 h];simp[upd],fun x h=>by rw[<- hl2 x h];simp[upd],_,rfl,?_⟩
 .cases oc with
  | none=>exact hbd
  | some c2=>
   have hac:c2≠a:=by
    rcases hoa with h1|⟨h1,_⟩
    .exact ax6 (hne a c2 h1 rfl)
    .exact absurd (hfr h1) (by simp)
   obtain⟨hbo,hc0⟩:=hbd;have hlt:=hbo.lt;obtain⟨off,g,τ1,ob,L,e1,e2,ho,e3⟩:=hbo;refine⟨⟨off,g,τ1,ob,L,e1,e2,oN (by rw[hk c2 hac hlt];exact ho) (by omega),e3⟩,by omega,hac⟩
 .obtain ⟨off,g,τ1,ob,L,e1,rfl,ho',e3⟩:=hS;clear e3;generalize (s.rest++b).length=N at *;simp only[aX,Rd.pay]at h0 k0 ⊢;apply Pe;simp[-getElem?_pos,go_sem,h0,k0,hA]
def hdR(s:Rd)(b:List UInt8):Rd×List Pk×Int:=if s.st≠0 then(s,[],9)else fdL ((s.rest++b).length+1) { s with rest:=s.rest++b } []
def hfQ(oa1 oc1:Option Nat)(x:Rd×List Pk×Int)(fr:AM.Frame)(E:AM.Heap):Prop:=∃ O g oa oc,aB fr 4=.sl O 0 x.2.1.length g/\aB fr 5=.int .i64 x.2.2/\RdC 3 E 0 x.1 oa oc/\PkR 3 E O x.2.1.length g x.2.1/\0<O/\(∀ a,oa=some a->a≠O)/\(∀ c,oc=some c->c≠O)/\Kp oc1 oc E/\(∀ a,oa1=some a->oa=some a)
def RdC.keep{t:Nat}{H H':AM.Heap}{o:Nat}{s:Rd}{oa oc:Option Nat}(h:RdC t H o s oa oc)(hk:∀ j,j<H.length->H'[j]?=H[j]?):RdC t H' o s oa oc:=by
 obtain⟨⟨vr,vb,τ,hτ,h0,hr,hb⟩,hne,hfr⟩:=h;refine⟨⟨vr,vb,τ,hτ,by rw[hk _ (jo h0)];exact h0,hr.at0 ?_,hb.at0 ?_⟩,hne,hfr⟩
 .intro a ha;obtain⟨ob,L,h1,_⟩:=hr.ob.2.2 a ha;exact hk a (jo h1)
 .intro a ha;obtain⟨ob,L,h1,_⟩:=hb.ob.2.2 a ha;exact hk a (jo h1)
def RdC.lt{t:Nat}{H:AM.Heap}{o:Nat}{s:Rd}{oa oc:Option Nat}(h:RdC t H o s oa oc):o<H.length/\(∀ a,oa=some a->a<H.length/\a≠o)/\(∀ c,oc=some c->c<H.length/\c≠o):=by
 obtain⟨⟨vr,vb,τ,hτ,h0,hr,hb⟩,hne,hfr⟩:=h;refine⟨jo h0,?_,?_⟩
 .intro a ha;obtain⟨ob,L,h1,_⟩:=hr.ob.2.2 a ha;subst ha;exact⟨jo h1,hr.2⟩
 .intro a ha;obtain⟨ob,L,h1,_⟩:=hb.ob.2.2 a ha;subst ha;exact⟨jo h1,hb.2⟩
def RdC.cat{t:Nat}{H r:AM.Heap}{o:Nat}{s:Rd}{oa oc:Option Nat}(h:RdC t H o s oa oc):RdC t (H++r) o s oa oc:=h.keep fun j hj=>axL hj
def aev{t:Nat}{H:AM.Heap}{O:Nat}(h:H[O]?=some (some vS)):PkR t H O 0 0 []:=⟨[],vS,0,.inl rfl,trivial,rfl,h,⟨rfl,rfl,rfl,rfl,rfl⟩⟩
def QX{E:AM.Heap}{oa1 oc1:Option Nat}(h:RdC 3 E 0 s oa1 oc1)(hm:0<s.m)(hnx:s.nx<256)(hb:s.rest.length+s.body.length+b.length<=900000):∃ code,Try.f24.body=some code /\
 aj (lG (hfQ oa1 oc1 (hdR s b))) X (evT X) 24 mm code [(0,.ptr 0 0 0 0),(1,.ro c (.pb b) 2)] E:=by
 refine⟨_,rfl,?_⟩;have h1:RdC 3 (E++[some vS]) 0 s oa1 oc1:=h.cat;obtain⟨E2,hn,h2,hl2,hk2⟩:=ZX h1 hm;apply aj.seq (fr':=[(0,.ptr 0 0 0 0),(1,.ro c (.pb b) 2)]) (H':=E++[some vS])
 .apply Pe;simp[-getElem?_pos,go_sem,ak,emK]
 obtain⟨⟨vr,vb,τ,_,h02,_⟩,_⟩:=id h2;by_cases hst:s.st≠0
 .have hlt:=h2.lt;rw[show hdR s b=(s,[],9)by unfold hdR;rw[if_pos hst]];exact aj.of (o:=⟨.ret,[(4,.sl E2.length 0 0 0),(5,.int .i64 9)],E2++[some vS]⟩) (Run.bK (piece (ae7 c b hn h02 hst) _ rfl) (by simp)) ⟨rfl,E2.length,0,oa1,oc1,rfl,rfl,h2.cat,aev (by simp),by omega,fun a ha=>by have:=hlt.2.1 a ha;omega,fun a ha=>by have:=hlt.2.2 a ha;omega,fun c h=>.inl h,fun a h=>h⟩
 have asP:s.st=0:=by simpa using hst
 apply aj.seq (piece (aje c b hn h02 asP) _ rfl);obtain⟨a,E3,h3,ha3,hl3,axG,hr3⟩:=ajf (mm:=mm) c b h2 (by omega);apply aj.seq (piece hr3 _ rfl);apply aj.seq (fr':=gU E3.length ([]:List Pk).length 0 []) (H':=E3++[some vS])
 .unfold gU;apply Pe;simp[-getElem?_pos,go_sem,ak,emK]
 have hR:hdR s b=fdL ((s.rest++b).length+1) { s with rest:=s.rest++b } []:=by unfold hdR;rw[if_neg hst]
 rw[hR];have h3c:RdI 3 (E3++[some vS]) { s with rest:=s.rest++b } a oc1:=h3.rdC.cat.rdI;have hlt3:=h3.rdC.lt;have hoff:Off E3.length a oc1:=⟨by omega,by have:=hlt3.2.1 a rfl;omega,fun c hc=>by have:=hlt3.2.2 c hc;omega⟩;have hfin:∀ fr H,fdQ a oc1 (fdL ((s.rest++b).length+1) { s with rest:=s.rest++b } []) fr H->hfQ oa1 oc1 (fdL ((s.rest++b).length+1) { s with rest:=s.rest++b } []) fr H:=by
  rintro fr H ⟨O,g,oc,q4,q5,hI,hp,⟨o1,o2,o3⟩,hK⟩;refine⟨O,g,some a,oc,q4,q5,hI.rdC,hp,o1,fun x hx=>by cases hx;omega,o3,hK,fun x hx=>?_⟩;rcases ha3 with h|⟨h,_⟩
  .rw [<- h];exact hx
  .rw [h]at hx;cases hx
 have hL:=acf (mm:=mm) (H0:=E3++[some vS]) { s with rest:=s.rest++b } a E3.length 0 oc1 [] ((s.rest++b).length+1) h3c (aev (by simp)) hoff ⟨hnx,by simp;omega⟩ (by simp);apply aj.or (P:=fdP a oc1 (fdL ((s.rest++b).length+1) { s with rest:=s.rest++b } []))
 .refine (piece hL _ rfl).mono ?_;rintro o (h|⟨h1,h2⟩)
  .exact .inl h
  .exact .inr ⟨by rw[h2.1];simp,h2.1,hfin _ _ h2.2⟩
 rintro fr H ⟨O,g,oc,tl,rfl,htl,he,h1,h2,h3,h4⟩;refine aj.of (o:=⟨.ret,[(4,.sl O 0 (fdL ((s.rest++b).length+1) { s with rest:=s.rest++b } []).2.1.length g),(5,.int .i64 0)],H⟩) ⟨0,?_⟩ ⟨rfl,hfin _ _ ⟨O,g,oc,rfl,by rw[he];rfl,h1,h2,h3,h4⟩⟩;clear hfin hL hn;generalize (fdL ((s.rest++b).length+1) { s with rest:=s.rest++b } []).2.1.length=N;unfold gU;rcases htl with rfl|⟨v,rfl⟩
 .simp [-getElem?_pos,go_sem,ak]
 .simp [-getElem?_pos,go_sem,ak]
end
end Go.Proofs.Ytbodincpjijdiaa
