/- The abstract machine, part 3: a deterministic evaluator for the program's code and the proof that what it tells is so. Conditions: none beyond the theorems' own. -/
import Derived.Attr
import Derived.ChangeCalls
import Derived.LaidHandle
import Derived.LaidLaws
import Derived.Lib.LaidTab
import Derived.MakeChecks
import Derived.ProofKit
import Derived.Stop.Joined
import Derived.Test.YtbodincpjijdiaaAm2
set_option linter.defProp false
set_option linter.unusedSimpArgs false
set_option linter.unusedVariables false
set_option maxRecDepth 100000
set_option maxHeartbeats 8000000
namespace Go.AM
def MO:Ex->Exit
 | .normal=>.normal
 | .exit id=>.exit id
 | .ret=>.ret
def Left(C:Ctx)(T:Nat->Nat->Prop)(m:Nat)(K0:Kx)(nt:Nat)(out:Out)(e:Exit)(a:Act)(w:World):Prop :=
 e=MO out.ex/\Now C T m K0 nt out.fr out.H a w
def least{J:Nat->Prop}(h:∃ k,J k):∃ k,J k/\∀ j,J j->k<=j:=by
 obtain⟨k,hk⟩:=h;induction k using Nat.strongRecOn with
 | _ k ih=>
  by_cases hx:∃ j,j<k/\J j
  .obtain ⟨j,h1,h2⟩:=hx;exact ih j h1 h2
  .exact ⟨k,hk,fun j hj=>Nat.le_of_not_lt fun h=>hx ⟨j,h,hj⟩⟩
open Classical in
noncomputable def KF (J:Act->World->Nat->Prop) (a:Act) (w:World):Nat :=
 if h:∃ k,J a w k then Classical.choose (least h)else 0
def D6{J:Act->World->Nat->Prop}{a:Act}{w:World}(h:∃ k,J a w k):J a w (KF J a w)/\∀ j,J a w j->KF J a w<=j:=by
 unfold KF;rw[dif_pos h];exact Classical.choose_spec (least h)
def KG{P:Program}{Q:Exit->Act->World->Prop}{c:Code}{a:Act}{w:World}(J:Act->World->Nat->Prop)(n:Nat)(h0:J a w n)
 (round:∀ a w n,J a w n->c.wp P (Exit.then (fun a' w'=>∃ k,k<n/\J a' w' k) Q) a w):(Code.loop c).wp P Q a w:=by
 refine wp_loop (fun a w=>∃ k,J a w k) (KF J) ⟨n,h0⟩ fun a w h=>?_;obtain⟨h1,h2⟩:=D6 h;refine wp_mono (round a w _ h1) fun e a' w' hq=>?_;cases e<;>simp only[Exit.then]at hq ⊢<;>try exact hq
 obtain⟨k,h3,h4⟩:=hq;exact⟨⟨k,h4⟩,Nat.lt_of_le_of_lt ((D6 ⟨k,h4⟩).2 k h4) h3⟩
section
variable {C:Ctx}{T:Nat->Nat->Prop}{m nt:Nat}{K0:Kx}
def qh{cf:Cf}(hcf:CX C cf)(hct:nU C cf){f n:Nat}(uV:C.P.follows .mixedOrders=true):(c:Code)->jL C f c=true->∀ {fr:Frame} {H:Heap} {a:Act} {w:World} {out:Out},
 exec C cf f m n c fr H=some out->Now C T m K0 (fF C f) fr H a w->c.wp C.P (Left C T m K0 (fF C f) out) a w
 | .skip,_,fr,H,a,w,out,h,hN=>by
  simp only[exec,axH]at h;subst h;exact wp_skip ⟨rfl,hN⟩
 | .region id ops draw,hdr,fr,H,a,w,out,h,hN=>by
  simp only[exec]at h;have hQ:∀ fr' H',out=jk C f m id fr' H'->∀ a' w',Now C T m K0 (fF C f) fr' H' a' w'->Left C T m K0 (fF C f) out .normal a' w':=fun fr' H' e a' w' hN'=>by
   subst e;obtain⟨h1,h2⟩:=hN'.after f id;exact⟨by rw[h1];rfl,h2⟩
  split at h
  .rename_i hdy;simp only[ax4]at hdy;obtain⟨rfl,hdy⟩:=hdy;simp only[jL,az3,hdy,if_true,Bool.false_or]at hdr;split at h
   .rename_i fr' H' ms hr;split at h
    .rename_i hok;simp only[axH]at h;rcases ayV _ _ ▸ hok with hok|hok
     .exact Yk hcf hct uV hdr hr hok hN (hQ fr' H' h.symm)
     .simp only[ax4]at hok;exact UJ hcf hct uV hdr hok.1 hok.2 hr hN (hQ fr' H' h.symm)
    .cases h
   .cases h
  .rename_i arD;split at h
   .cases h
   .rename_i hd;split at h
    .rename_i fr' H' hr;simp only[axH]at h;cases draw with
     | true=>
      have hid:C.dr f id=true:=by simpa using hd
      have hdy:C.dy f id=false:=by simpa using arD
      simp only[jL,hid,hdy,az3,Bool.false_or,axZ,if_false]at hdr;exact aaV hcf hct uV hdr hr hN (hQ fr' H' h.symm)
     | false=>
      refine wp_region ?_;have:=CY hcf (Q:=Left C T m K0 (fF C f) out) ops.toList 0 rfl hr hN (hQ fr' H' h.symm)
      rwa [azM,<- List.range_eq_range']at this
    .cases h
 | .seq x y,hdr,fr,H,a,w,out,h,hN=>by
  simp only[jL,ax4]at hdr;obtain⟨hd1,hd2⟩:=hdr;simp only[exec]at h;split at h
  .rename_i fr' H' hx;refine wp_seq (wp_mono (qh hcf hct uV x hd1 hx hN) fun e a' w' hl=>?_);obtain⟨rfl,hN'⟩:=hl;exact qh hcf hct uV y hd2 h hN'
  .rename_i hne;refine wp_seq (wp_mono (qh hcf hct uV x hd1 h hN) fun e a' w' hl=>?_);obtain⟨rfl,hN'⟩:=hl;cases hx:out.ex with
   | normal=>
    obtain⟨ex,fr',H'⟩:=out;simp only at hx;subst hx;exact absurd h (hne _ _)
   | exit id=>simp only[MO,Exit.then];exact⟨by rw[hx];rfl,hN'⟩
   | ret=>simp only[MO,Exit.then];exact⟨by rw[hx];rfl,hN'⟩
 | .cond c x y,hdr,fr,H,a,w,out,h,hN=>by
  simp only[jL,ax4]at hdr;obtain⟨hd1,hd2⟩:=hdr;simp only[exec]at h;split at h
  .rename_i d hd;have hc:a.eval c=.bool d:=by obtain⟨μ,hI,_,hf,_⟩:=hN;have:=yE hI hf c;rw[hd]at this;simpa[aF,aK,aU,RV]using this
   refine wp_cond hc ?_;cases d with
   | true=>exact qh hcf hct uV x hd1 h hN
   | false=>exact qh hcf hct uV y hd2 h hN
  .cases h
 | .block id c,hdr,fr,H,a,w,out,h,hN=>by
  simp only[jL]at hdr;simp only[exec]at h;split at h
  .rename_i id' fr' H' hx;refine wp_block (wp_mono (qh hcf hct uV c hdr hx hN) fun e a' w' hl=>?_);obtain⟨rfl,hN'⟩:=hl;simp only[MO,Exit.inBlock];split at h
   .rename_i he;simp only[axH]at h;subst h;rw[if_pos he];exact⟨rfl,hN'⟩
   .rename_i he;simp only[axH]at h;subst h;rw[if_neg he];exact⟨rfl,hN'⟩
  .rename_i hne;refine wp_block (wp_mono (qh hcf hct uV c hdr h hN) fun e a' w' hl=>?_);obtain⟨rfl,hN'⟩:=hl;cases hx:out.ex with
   | normal=>simp only[MO,Exit.inBlock];exact⟨by rw[hx];rfl,hN'⟩
   | exit id=>
    obtain⟨ex,fr',H'⟩:=out;simp only at hx;subst hx;exact absurd h (hne _ _ _)
   | ret=>simp only[MO,Exit.inBlock];exact⟨by rw[hx];rfl,hN'⟩
 | .loop c,hdr,fr,H,a,w,out,h,hN=>by
  simp only[jL]at hdr;simp only[exec]at h;refine KG (fun a w k=>∃ fr H,qG (exec C cf f m n c) k fr H=some out/\Now C T m K0 (fF C f) fr H a w) n ⟨fr,H,h,hN⟩ ?_;rintro a w k ⟨fr,H,hk,hN⟩;cases k with
  | zero=>simp[qG]at hk
  | succ k=>
   simp only[qG]at hk;split at hk
   .rename_i fr' H' hx;refine wp_mono (qh hcf hct uV c hdr hx hN) fun e a' w' hl=>?_;obtain⟨rfl,hN'⟩:=hl;exact⟨k,Nat.lt_succ_self k,fr',H',hk,hN'⟩
   .rename_i hne;refine wp_mono (qh hcf hct uV c hdr hk hN) fun e a' w' hl=>?_;obtain⟨rfl,hN'⟩:=hl;cases hx:out.ex with
    | normal=>
     obtain⟨ex,fr',H'⟩:=out;simp only at hx;subst hx;exact absurd hk (hne _ _)
    | exit id=>simp only[MO,Exit.then];exact⟨by rw[hx];rfl,hN'⟩
    | ret=>simp only[MO,Exit.then];exact⟨by rw[hx];rfl,hN'⟩
 | .exit id,_,fr,H,a,w,out,h,hN=>by
  simp only[exec,axH]at h;subst h;exact wp_exit ⟨rfl,hN⟩
 | .ret,_,fr,H,a,w,out,h,hN=>by
  simp only[exec,axH]at h;subst h;exact wp_ret ⟨rfl,hN⟩
 | .scope ..,_,fr,H,a,w,out,h,hN=>by simp[exec]at h
 | .label ..,_,fr,H,a,w,out,h,hN=>by simp[exec]at h
 | .goto ..,_,fr,H,a,w,out,h,hN=>by simp[exec]at h
 | .refuse ..,_,fr,H,a,w,out,h,hN=>by simp[exec]at h
 | .rangeFunc ..,_,fr,H,a,w,out,h,hN=>by simp[exec]at h
end
structure Jb (C:Ctx):Prop where
 mix:C.P.follows .mixedOrders=true
 draws:∀ f fn c,C.P.funcs[f]?=some fn->fn.body=some c->jL C f c=true
section
variable {C:Ctx}{T:Nat->Nat->Prop}{K:Kx}
def UK(hI:Inv C K T){t:TypeId}{a x:AV}{v:Value}(hv:aF K T a v)(h:wH C K.H t a=some x) :
 ∃ u,(do loadVar t (<- asAddr v):Sem Value).run C.P K.w=.ok u K.w/\aF K T x u:=by
 obtain⟨u,h1,h2⟩:=MP hI hv h;refine⟨u,?_,h2⟩;have:∃ ad,v=.pointer (some ad):=by
  unfold wH at h;split at h
  .cases h
  .split at h
   .rename_i o i f g;cases hl:live K.H o g with
    | none=>rw[hl]at h;cases h
    | some ob=>
     simp only[aF,aK,aU]at hv;obtain⟨h3,h4⟩:=cZ.1 hl;exact⟨_,((hv.2.2 ob h3).2 h4).2⟩
   .simp only[aF,aK]at hv;obtain⟨b,off,h3,_⟩:=hv;exact⟨_,h3⟩
   .cases h
 obtain⟨ad,rfl⟩:=this;simp only[Instr.loadAt,Instr.sureAddr,Sem.run_bind,Sem.run_pure,Result.andThen_ok]at h1;simp only[asAddr,Sem.run_bind,Sem.run_pure,Result.andThen_ok];exact h1
def KH(tmps:Array Value):ResultVar->Sem Value
 | .tmp t=>pure (tmps.getD t undef)
 | .cell a t=>do loadVar t (<- asAddr (tmps.getD a undef))
def xk(hI:Inv C K T){fr:Frame}{tmps:Array Value}(hf:rD K T fr tmps):∀ {rs:List ResultVar} {l:List AV},aT C fr K.H rs=some l ->
 ∃ us,(rs.mapM (KH tmps)).run C.P K.w=.ok us K.w/\fD K T l us
 | [],l,h=>by
  simp only[aT,axH]at h;subst h;exact⟨[],by simp[Sem.run_pure],trivial⟩
 | .tmp t::r,l,h=>by
  simp only[aT]at h;cases hr:aT C fr K.H r with
  | none=>rw[hr]at h;cases h
  | some l'=>
   rw[hr]at h;simp only[axM,axH]at h;subst h;obtain⟨us,h1,h2⟩:=xk hI hf hr;exact⟨tmps.getD t undef::us,by simp only[List.mapM_cons,KH,Sem.run_bind,Sem.run_pure,Result.andThen_ok,h1],hf t,h2⟩
 | .cell a t::r,l,h=>by
  simp only[aT]at h;split at h
  .rename_i x l' hx hr;simp only[axH]at h;subst h;obtain⟨us,h1,h2⟩:=xk hI hf hr;obtain⟨u,h3,h4⟩:=UK hI (hf a) hx;refine⟨u::us,?_,h4,h2⟩;simp only[List.mapM_cons,KH];rw[Sem.run_bind,h3];simp only[Result.andThen_ok,Sem.run_bind,h1,Sem.run_pure]
  .cases h
def Jf:∀ {l:List AV} {us:List Value},dB l=true->fD K T l us->us.length=l.length/\∀ (j:Nat) (a:AV),l[j]?=some a->∃ u,us[j]?=some u/\aK K T a u
 | [],us,_,h=>by rw[h.nil];simp
 | a::r,us,hn,h=>by
  obtain⟨v,s,rfl,h1,h2⟩:=h.cons;have ha:aK K T a v/\dB r=true:=by cases a<;>first|exact⟨h1,hn⟩|(simp[dB]at hn;done)
  obtain⟨h3,h4⟩:=Jf ha.2 h2;refine⟨by simp[h3],fun j b hb=>?_⟩;cases j with
  | zero=>
   simp only[ayf,axH]at hb;subst hb;exact⟨v,rfl,ha.1⟩
  | succ j=>exact h4 j b hb
def fD.len:∀ {l:List AV} {us:List Value},fD K T l us->us.length=l.length
 | [],us,h=>by simp[h.nil]
 | a::r,us,h=>by
  obtain⟨v,s,rfl,h1,h2⟩:=h.cons;simp[h2.len]
def P5(hI:Inv C K T){fr:Frame}{tmps:Array Value}(hf:rD K T fr tmps){fn:Func}{l:List AV}(h:aT C fr K.H fn.results.toList=some l) :
 ∃ v,(results fn tmps).run C.P K.w=.ok v K.w/\aF K T (aG l) v:=by
 obtain⟨us,h1,h2⟩:=xk hI hf h;have hlen:=h2.len;refine⟨if h:us.toArray.size=1 then us.toArray[0]else .tuple us.toArray,?_,?_⟩
 .have:results fn tmps=(do let vs<-fn.results.mapM (KH tmps);pure (if h:vs.size=1 then vs[0]else .tuple vs)):=rfl;rw[this,Array.mapM_eq_mapM_toList];simp only[Sem.run_bind,map_eq_pure_bind,h1,Result.andThen_ok,Sem.run_pure]
 .split
  .rename_i hs;simp only[azd]at hs;rw[hs]at hlen;cases l with
   | nil=>simp at hlen
   | cons a r=>
    cases r with
    | nil=>
     obtain⟨v,s,rfl,h3,h4⟩:=h2.cons;exact h3
    | cons=>simp at hlen
  .rename_i hs;simp only[azd]at hs;have:aG l=if dB l then .tup l else .top:=by
    cases l with
    | nil=>rfl
    | cons a r=>
     cases r with
     | nil=>simp at hlen;exact absurd hlen hs
     | cons=>rfl
   rw[this];split
   .rename_i hn;obtain⟨h3,h4⟩:=Jf hn h2;simp only[aF];exact⟨us.toArray,rfl,by simpa using h3,fun j a ha=>by obtain⟨u,h5,h6⟩:=h4 j a ha;exact⟨u,by simpa using h5,h6⟩⟩
   .exact aF.top _ _ _
def AA:∀ {l:List AV} {us:List Value} {k:Nat},fD K T l us->∀ i,(k<=i/\i<k+us.length/\∃ u,us[i-k]?=some u/\aF K T (aB (numbered k l) i) u)\/aB (numbered k l) i=.top
 | [],us,k,_,i=>.inr rfl
 | a::r,us,k,h,i=>by
  obtain⟨v,s,rfl,h1,h2⟩:=h.cons;simp only[numbered,aB];split
  .rename_i hk;subst hk
   left
   refine⟨axO _,by simp,v,by simp,h1⟩
  .rcases AA (k:=k+1) h2 i with⟨h3,h4,u,h5,h6⟩|h3
   .left
    simp only[axY];refine⟨by omega,by omega,u,?_,h6⟩;rw[show i-k=(i-(k+1))+1 by omega];simpa using h5
   .exact .inr h3
def P6(hC:Jb C){cf:Cf}(hcf:CX C cf)(hct:nU C cf)(n:Nat):CX C (lX C cf n):=by
 intro f args H x H' h K T vs hK hI ha;subst hK;unfold lX at h;split at h
 .cases h
 .rename_i fn hF;split at h
  .cases h
  .rename_i c hc;refine calls_of_wp hF hc ?_;have hN:Now C T K.H.length K (fF C f) (numbered 0 args) K.H { tmps:=vs++Array.replicate (fn.ntmps-vs.size) undef,defers:=[] } K.w:=by
    refine⟨K.μ,hI,Evo.refl T K (axO _),fun i=>?_,?_,rfl⟩
    .rcases AA (k:=0) ha i with⟨_,h2,u,h3,h4⟩|h1
     .rw [azL]at h3;have:(vs++Array.replicate (fn.ntmps-vs.size) undef).getD i undef=u:=by
       have hlt:i<vs.size:=by simpa using h2
       rw[ayp,Array.getElem?_append_left hlt,<- ayr,h3];rfl
      rw[this];exact h4
     .rw [h1];exact aF.top _ _ _
    .simp only[fF,hF,axM,ayv,azX,Array.size_replicate];omega
   have key:∀ (out:Out),exec C cf f K.H.length n c (numbered 0 args) K.H=some out->(out.ex=.normal\/out.ex=.ret)->(aT C out.fr out.H fn.results.toList).map (fun l=>(aG l,out.H))=some (x,H') ->
    c.wp C.P (bodyPost C.P fn (Gives C T K x H')) { tmps:=vs++Array.replicate (fn.ntmps-vs.size) undef,defers:=[] } K.w:=by
    intro out hout hex hres;refine wp_mono (qh hcf hct hC.mix c (hC.draws f fn c hF hc) hout hN) fun e a' w' hl=>?_;obtain⟨rfl,μ,hI',hE,hf,_,hd⟩:=hl;cases hr:aT C out.fr out.H fn.results.toList with
    | none=>rw[hr]at hres;cases hres
    | some l=>
     rw[hr]at hres;simp only[axM,axH,axJ]at hres;obtain⟨rfl,rfl⟩:=hres;obtain⟨v,h1,h2⟩:=P5 hI' hf hr;rcases hex with hex|hex<;>rw[hex]<;>exact⟨hd,v,h1,μ,hI',hE,h2⟩
   split at h
   .rename_i fr' H1 hx;exact key _ hx (.inl rfl) h
   .rename_i fr' H1 hx;exact key _ hx (.inr rfl) h
   .cases h
def MQ(hC:Jb C):∀ n,CX C (lT C n)
 | 0=>by intro f args H x H' h;simp[lT]at h
 | n+1=>by
  have:=UL (P6 hC (MQ hC n) (MR n) n);exact this
end
end Go.AM
namespace Go.AM
open Go.ChangeShapes Go.WideShapes Go.ChangeAt Go.RowKit
def T0(n:Nat)(t b:Nat):Prop:=n<=b\/t≠0
def start(W:World):Kx:=⟨fun _=>default,[],W⟩
def yF(W:World)(b:Nat):¬ Own (start W) b:=by
 rintro⟨o,ob,h,_⟩;simp[start]at h
def GOk(C:Ctx)(W:World):Prop:=∀ g p,C.G g=some p->ah p≠0/\g<W.heap.size/\RP W (fun b=>b<W.heap.size) p (fun j=>W.cell? ⟨g,j,none⟩)
def GOk.none{C:Ctx}(hG:∀ g,C.G g=none)(W:World):GOk C W:=fun g p h=>by rw[hG]at h;cases h
def UM{C:Ctx}{W:World}(hG:GOk C W):Inv C (start W) (T0 W.heap.size) where
 obj:=fun o ob h=>by simp[start]at h
 inj:=fun o o' ob ob' h=>by simp[start]at h
 own:=fun b h=>absurd h (yF W b)
 new:=fun b h=>.inl h
 mono:=fun t b h=>by
  rcases h with h|h
  .exact .inl h
  .exact absurd rfl h
 glob:=fun g p h=>by
  obtain⟨h1,h2,h3⟩:=hG g p h;have hn:∀ b,b<W.heap.size->NT (start W) (T0 W.heap.size) dA b:=fun b hb=>⟨.inr (by simp[dA]),yF W b,hb⟩;exact⟨h1,hn g h2,jM (w':=(start W).w) (fun b hb=>⟨hn b hb,fun _ _ h=>h⟩) p _ _ (fun _ _ h=>h) h3⟩
def aaW(W:World)(e:Ending)(W':World):Prop :=
 e=.returned (.bool true)/\W'.os=W.os/\W'.output=W.output/\∀ b:Nat,b<W.heap.size->W'.heap[b]?=W.heap[b]?
def UN{C:Ctx}(hC:Jb C){n f:Nat}{args:List AV}{vs:Array Value}{W:World}{H':Heap}(hG:GOk C W)(h:lT C n f args []=some (.bool true,H'))
 (ha:fD (start W) (T0 W.heap.size) args vs.toList):Calls C.P f vs W (aaW W):=by
 have:=MQ hC n f args [] _ H' h (start W) (T0 W.heap.size) vs rfl (UM hG) ha;refine Calls.mono this fun e W' he=>?_;cases e with
 | panicked=>exact he.elim
 | outgrown=>exact he.elim
 | returned v=>
  obtain⟨μ,hI,hE,hv⟩:=he;simp only[aF,aK,aU,RV]at hv;subst hv;refine⟨rfl,hE.os,hE.output,fun b hb=>hE.exact b hb (yF W b) ?_⟩;rintro(h|h)
  .have:b<W.heap.size:=hb;omega
  .exact h rfl
section
variable {H:Type}{enc:TypeId×Value->H}
def Yl{P:Program}{f:Func}{s:ChangeSpec}{apart fresh handsOn again:Bool}{W W':World}{args:Array Value}{ds gs:List (DataW H)}{before:List MemPlace}{rt:TypeId}
 (hrow:laidOutB P=true)(hmap:mapsRowed P=true)(hfull:∀ t e,t<P.types.size->P.underlying t=some (.slice e)->0<P.cellsOf e)(KI:∀ t∈f.params.toList,t<P.types.size)
 (hvars:s.vars=[])(hrt:f.resultTypes=#[rt])(hb:P.underlying rt=some .bool)
 (hW:DataW.Whole enc P f.params.toList s.vars apart W args.toList ds gs before)(hfn:s.fn H ds={ results:=[.lit (.bool true)],args:=ds })
 (hos:W'.os=W.os)(hout:W'.output=W.output)(hsame:∀ b:Nat,b<W.heap.size->W'.heap[b]?=W.heap[b]?) :
 s.post enc P f apart fresh handsOn again W args (.bool true) W':=by
 have hlt:=hW.lt;have hcell:∀ b off,b<W.heap.size->W'.cell? ⟨b,off,none⟩=W.cell? ⟨b,off,none⟩:=fun b off h=>cell_of_heap (hsame b h) off;have hfz:∀ a:Addr,a.block<W.heap.size->W'.frozen? a=W.frozen? a:=fun a h=>by unfold World.frozen?;rw[hsame _ h]
 have hat:∀ p∈before,W.sameAt W' p:=by
  intro p hp;have:=hlt p hp;cases p with
  | cell b off=>exact hcell b off this
  | map b=>exact hsame b this
 have K:=kids_rows hrow hmap;obtain⟨p,q,hA,hV,hps,hz,hn⟩:=id hW;rw[hvars]at hV;obtain⟨rfl,rfl⟩:=trodVars_none hV;simp only[ax1]at hps;subst hps
 -- the arguments again
 have again':∀ sp:Nat->Bool,(∀ x∈before,sp x.block=true)->DataW.TrodAll enc P W' 0 sp true f.params.toList args.toList ds before:=by
  intro sp hsp;have carry:∀ {ts:List TypeId} {vs:List Value} {ds:List (DataW H)} {ps:List MemPlace},DataW.TrodAll enc P W 0 (fun _=>true) true ts vs ds ps->(∀ x∈ps,W.sameAt W' x)->DataW.TrodAll enc P W' 0 (fun _=>true) true ts vs ds ps:=by
   intro ts;induction ts with
   | nil=>intro vs ds ps h _;cases vs<;>cases ds<;>first|exact h|exact h.elim
   | cons t ts ih=>
    intro vs ds ps h hs;cases vs with
    | nil=>exact h.elim
    | cons v vs=>
     cases ds with
     | nil=>exact h.elim
     | cons d ds=>
      obtain⟨a,b,⟨n,h1⟩,h2,e⟩:=h;subst e;exact⟨a,b,⟨n,DataW.trod_carry n t _ _ h1 fun x hx=>hs x (ayW _ hx)⟩,ih h2 fun x hx=>hs x (ay2 _ hx),rfl⟩
  exact DataW.TrodAll.respare K hfull KI (carry hA hat) hsp
 have hres:∀ (b:Nat) (sp:Nat->Bool) (hd:Bool),DataW.TrodAll enc P W' b sp hd f.resultTypes.toList ((Value.bool true).resultList f.resultTypes.size) [.lit (.bool true)] []:=by intro b sp hd;rw[hrt];exact trodAll_mk1 (shut_bool hb true)
 have hfn':s.fn H (ds++[])={ results:=[.lit (.bool true)],args:=ds }:=by rw[ax1];exact hfn
 have hold:∀ x∈before,(fun b=>decide (b<W.heap.size)) x.block=true:=fun x hx=>by simpa using hlt x hx
 have hkept:W.keptBut W' (fun x=>x∈before/\x∈before++[]):=by
  refine⟨hos,hout,fun i hi=>?_⟩;rw[hsame i hi];generalize W.heap[i]?=x;rcases x with _|x
  .rfl
  .cases x<;>simp
 refine⟨ds,[],before,[],before,[],hW,?_,?_,?_,?_,fun _=>?_⟩
 .rw [hfn'];exact hres _ _ _
 .rw [hfn'];exact again' _ hold
 .rw [hfn',hvars];rfl
 .refine World.keptBut_mono (fun x hx=>?_) hkept;exact⟨hx.1,.inr (.inl hx.1)⟩
 .refine ⟨ok_one hrt rfl (okWide_bool_mk hb true),[.lit (.bool true)]++ds,[],([]++before)++[],⟨[]++before,[],?_,?_,rfl,?_,?_⟩,?_⟩
  .exact trodAll_append (again' _ (fun _ _=>rfl)) (hres _ _ _)
  .rw [hvars];rfl
  .intro b off hp;have hp':MemPlace.cell b off∈before:=by simpa using hp
   rw[hfz ⟨b,off,none⟩ (hlt (MemPlace.cell b off) hp')];exact hz b off hp'
  .intro ha;simpa using hn ha
  .intro x hx _;simpa using hx
def law_lifted{a:Assume}{D:Checked}{X:Ctx}(hX:X.P=D.prog)(hC:Jb X)(hG:∀ g,X.G g=none){os:Os}{f:FuncId}{fn:Func}{s:ChangeSpec}{conds:List PathCond}{apart fresh handsOn again:Bool}{rt:TypeId}
 (own:ownKnob D.prog.godebug=none)(started:os.Started)(noInit:D.prog.inits.idxOf? f=none)(hfn:D.prog.funcs[f]?=some fn)
 (witness:∃ (w:World) (tape:Tape) (i:Input),w.os=os/\(w.forCall tape i).Shaped D.prog/\i.vars=[]/\Input.okWide D.prog (w.forCall tape i) .any w.heap.size f i /\
  s.pre6 enc D.prog fn conds apart (w.forCall tape i).memory i.args/\a.holds D.prog (lone (Frame.enter D.prog f i.args .normal) [] (w.forCall tape i)))
 (hrow:laidOutB D.prog=true)(hmap:mapsRowed D.prog=true)(hfull:∀ t e,t<D.prog.types.size->D.prog.underlying t=some (.slice e)->0<D.prog.cellsOf e)(KI:∀ t∈fn.params.toList,t<D.prog.types.size)
 (hvars:s.vars=[])(hrt:fn.resultTypes=#[rt])(hb:D.prog.underlying rt=some .bool)
 (hspec:∀ ds:List (DataW H),ds.length=fn.params.toList.length->s.fn H ds={ results:=[.lit (.bool true)],args:=ds })
 (run:∀ (W:World) (base:Nat) (args:Array Value) (ds:List (DataW H)) (ps:List MemPlace),
  (∀ (j:Nat) t v,fn.params[j]?=some t->args[j]?=some v->Value.okWide D.prog W .any base t v) ->
  DataW.TrodAll enc D.prog W 0 (fun _=>true) true fn.params.toList args.toList ds ps ->
  ∃ n as H',lT X n f as []=some (.bool true,H')/\fD (start W) (T0 W.heap.size) as args.toList) :
 ReturnsInHanded a D os f .any (s.pre6 enc D.prog fn conds apart) (s.post enc D.prog fn apart fresh handsOn again):=by
 refine returnsInHanded_of_change own started noInit hfn witness ?_;intro W base args ds gs before hval hW _ _;obtain⟨p,q,hA,hV,_,_,_⟩:=id hW;obtain⟨n,as,H',h1,h2⟩:=run W base args ds p hval hA;have CZ:=UN hC (GOk.none hG W) h1 h2;rw[hX]at CZ;refine Calls.mono CZ fun e W' he=>?_;obtain⟨he,hos,hout,hsame⟩:=he;exact⟨_,he,Yl hrow hmap hfull KI hvars hrt hb hW (hspec ds (trodAll_length hA).2) hos hout hsame⟩
end
def Ym(C:Ctx):Bool :=
 (List.range C.P.funcs.size).all fun f=>match C.P.funcs[f]? with
  | some fn=>match fn.body with
   | some c=>jL C f c
   | none=>true
  | none=>true
def X6{C:Ctx}(mix:C.P.follows .mixedOrders=true)(h:Ym C=true):Jb C where
 mix:=mix
 draws:=by intro f fn c hf hc;have hlt:f<C.P.funcs.size:=(ay8.1 hf).1;have:=ax5.1 h f (ayh.2 hlt);rw[hf]at this;simp only[hc]at this;exact this
def litVal:Lit->Value
 | .bool b=>.bool b
 | .int k n=>.int k n
 | .string b=>.string ⟨⟨b⟩⟩
 | _=>undef
mutual
def cellsD:DataW Unit->List Value
 | .lit l=>[litVal l]
 | .agg ps=>SH ps
 | _=>[undef]
def SH:List (DataW Unit)->List Value
 | []=>[]
 | d::r=>cellsD d++SH r
end
end Go.AM
namespace Go.AM
open Go.Lib
section
variable {C:Ctx}
def Ev1(C:Ctx)(f:Nat)(args:List AV)(H:Heap)(r:AV×Heap):Prop:=∃ n0,∀ n,n0<=n->lT C n f args H=some r
def Below(C:Ctx)(T:Cf):Prop:=∀ f args H r,T f args H=some r->Ev1 C f args H r
def aaX{T:Cf}(hT:Below C T){fr:Frame}{H:Heap}{o:Oper}{r:AV×Heap}(h:step C T fr H o=some r):∃ n0,∀ n,n0<=n->step C (lT C n) fr H o=some r:=by
 obtain⟨dst,op,type,pos,after,guard⟩:=o;cases op<;>try exact⟨0,fun _ _=>h⟩
 case makeFunc fn first caps=>cases fn<;>exact⟨0,fun _ _=>h⟩
 case call c=>
  simp only[step,uX]at h ⊢;cases hc:c.callee with
  | builtin b=>rw[hc]at h;exact⟨0,fun _ _=>h⟩
  | value x=>
   rw[hc]at h;simp only at h ⊢;split at h
   .rename_i f caps he;split at h
    .obtain ⟨n0,hn⟩:=hT _ _ _ _ h;refine⟨n0,fun n hl=>?_⟩;rename_i hb;rw[if_pos hb];exact hn n hl
    .cases h
   .cases h
  | invoke r n=>rw[hc]at h;cases h
def SI{T:Cf}(hT:Below C T){nt:Nat}{ops:Array Oper}{o:Oper}{fr:Frame}{H:Heap}{r:AV×Heap}(h:out1 C T nt ops o fr H=some r):∃ n0,∀ n,n0<=n->out1 C (lT C n) nt ops o fr H=some r:=by
 unfold out1 at h ⊢;split at h
 .rename_i hd;simp only[hd,if_true];split at h
  .exact aaX hT h
  .exact ⟨0,fun _ _=>h⟩
  .cases h
 .cases h
def Jg{T:Cf}(hT:Below C T){nt:Nat}{ops:Array Oper}:∀ {l:List Oper} {fr:Frame} {H:Heap} {r:Frame×Heap},mG C T nt ops l fr H=some r->∃ n0,∀ n,n0<=n->mG C (lT C n) nt ops l fr H=some r
 | [],fr,H,r,h=>⟨0,fun _ _=>h⟩
 | o::l,fr,H,r,h=>by
  rw[xq]at h;split at h
  .rename_i v H1 hv;obtain⟨n0,h0⟩:=SI hT hv;obtain⟨n1,h1⟩:=Jg hT h;refine⟨max n0 n1,fun n hn=>?_⟩;rw[xq,h0 n (by omega)];exact h1 n (by omega)
  .cases h
def SK{T:Cf}(hT:Below C T){nt:Nat}{ops:Array Oper}:∀ {l:List Oper} {fr:Frame} {H:Heap} {r:Frame×Heap×List Mark},jX C T nt ops l fr H=some r->∃ n0,∀ n,n0<=n->jX C (lT C n) nt ops l fr H=some r
 | [],fr,H,r,h=>⟨0,fun _ _=>h⟩
 | o::l,fr,H,r,h=>by
  simp only[jX]at h;split at h
  .rename_i v H1 hv;split at h
   .rename_i fr' H2 ms hr;obtain⟨n0,h0⟩:=SI hT hv;obtain⟨n1,h1⟩:=SK hT hr;refine⟨max n0 n1,fun n hn=>?_⟩;simp only[jX];rw[h0 n (by omega)];simp only;rw[h1 n (by omega)];exact h
   .cases h
  .cases h
def qj{T:Cf}(hT:Below C T){f m k:Nat}:(c:Code)->∀ {fr:Frame} {H:Heap} {out:Out},exec C T f m k c fr H=some out->∃ n0,∀ n,n0<=n->∀ k',k<=k'->exec C (lT C n) f m k' c fr H=some out
 | .skip,fr,H,out,h=>⟨0,fun _ _ _ _=>h⟩
 | .region id ops draw,fr,H,out,h=>by
  simp only[exec]at h ⊢;split at h
  .rename_i hd;simp only[hd,if_true];split at h
   .rename_i fr' H' ms hr;obtain⟨n0,h0⟩:=SK hT hr;refine⟨n0,fun n hn k' _=>?_⟩;rw[h0 n hn];exact h
   .cases h
  .rename_i hd;simp only[hd,axZ,if_false];split at h
   .cases h
   .rename_i hd2;simp only[hd2,axZ,if_false];split at h
    .rename_i fr' H' hr;obtain⟨n0,h0⟩:=Jg hT hr;refine⟨n0,fun n hn k' _=>?_⟩;rw[h0 n hn];exact h
    .cases h
 | .seq a b,fr,H,out,h=>by
  simp only[exec]at h ⊢;split at h
  .rename_i fr' H' ha;obtain⟨n0,h0⟩:=qj hT a ha;obtain⟨n1,h1⟩:=qj hT b h;refine⟨max n0 n1,fun n hn k' hk=>?_⟩;rw[h0 n (by omega) k' hk];exact h1 n (by omega) k' hk
  .rename_i hne;obtain⟨n0,h0⟩:=qj hT a h;refine⟨n0,fun n hn k' hk=>?_⟩;rw[h0 n hn k' hk];obtain⟨ex,fr',H'⟩:=out;cases ex with
   | normal=>exact absurd h (hne _ _)
   | exit id=>rfl
   | ret=>rfl
 | .cond c a b,fr,H,out,h=>by
  simp only[exec]at h ⊢;split at h
  .rename_i d hd;cases d with
   | true=>exact qj hT a h
   | false=>exact qj hT b h
  .cases h
 | .block id c,fr,H,out,h=>by
  simp only[exec]at h ⊢;split at h
  .rename_i id' fr' H' hc;obtain⟨n0,h0⟩:=qj hT c hc;refine⟨n0,fun n hn k' hk=>?_⟩;rw[h0 n hn k' hk];exact h
  .rename_i hne;obtain⟨n0,h0⟩:=qj hT c h;refine⟨n0,fun n hn k' hk=>?_⟩;rw[h0 n hn k' hk];obtain⟨ex,fr',H'⟩:=out;cases ex with
   | normal=>rfl
   | exit id=>exact absurd h (hne _ _ _)
   | ret=>rfl
 | .loop c,fr,H,out,h=>by
  simp only[exec]at h ⊢;have key:∀ j,∀ {fr:Frame} {H:Heap},qG (exec C T f m k c) j fr H=some out->∃ n0,∀ n,n0<=n->∀ k',k<=k'->∀ j',j<=j'->qG (exec C (lT C n) f m k' c) j' fr H=some out:=by
   intro j;induction j with
   | zero=>intro fr H h;simp[qG]at h
   | succ j ih=>
    intro fr H h;simp only[qG]at h;split at h
    .rename_i fr' H' hc;obtain⟨n0,h0⟩:=qj hT c hc;obtain⟨n1,h1⟩:=ih h;refine⟨max n0 n1,fun n hn k' hk j' hj=>?_⟩;obtain⟨j',rfl⟩:∃ i,j'=i+1:=⟨j'-1,by omega⟩;simp only[qG];rw[h0 n (by omega) k' hk];exact h1 n (by omega) k' hk j' (by omega)
    .rename_i hne;obtain⟨n0,h0⟩:=qj hT c h;refine⟨n0,fun n hn k' hk j' hj=>?_⟩;obtain⟨j',rfl⟩:∃ i,j'=i+1:=⟨j'-1,by omega⟩;simp only[qG];rw[h0 n hn k' hk];obtain⟨ex,fr',H'⟩:=out;cases ex with
     | normal=>exact absurd h (hne _ _)
     | exit id=>rfl
     | ret=>rfl
  obtain⟨n0,h0⟩:=key k h;exact⟨n0,fun n hn k' hk=>h0 n hn k' hk k' hk⟩
 | .exit id,fr,H,out,h=>⟨0,fun _ _ _ _=>h⟩
 | .ret,fr,H,out,h=>⟨0,fun _ _ _ _=>h⟩
 | .scope ..,fr,H,out,h=>by simp[exec]at h
 | .label ..,fr,H,out,h=>by simp[exec]at h
 | .goto ..,fr,H,out,h=>by simp[exec]at h
 | .refuse ..,fr,H,out,h=>by simp[exec]at h
 | .rangeFunc ..,fr,H,out,h=>by simp[exec]at h
def P7{T:Cf}(hT:Below C T){k f:Nat}{args:List AV}{H:Heap}{r:AV×Heap}(h:lX C T k f args H=some r):∃ n0,∀ n,n0<=n->lX C (lT C n) n f args H=some r:=by
 unfold lX at h ⊢;cases hF:C.P.funcs[f]? with
 | none=>rw[hF]at h;cases h
 | some fn=>
  rw[hF]at h;simp only at h ⊢;cases hb:fn.body with
  | none=>rw[hb]at h;cases h
  | some c=>
   rw[hb]at h;simp only at h ⊢;cases he:exec C T f H.length k c (numbered 0 args) H with
   | none=>rw[he]at h;cases h
   | some out=>
    obtain⟨n0,h0⟩:=qj hT c he;refine⟨max n0 k,fun n hn=>?_⟩;rw[h0 n (by omega) n (by omega)];rw[he]at h;exact h
def F6{T:Cf}(hT:Below C T){k f:Nat}{args:List AV}{H:Heap}{r:AV×Heap}(h:ku C (lX C T k) f args H=some r):Ev1 C f args H r:=by
 unfold ku at h;split at h
 .cases h
 .rename_i as aN hl;simp only at h;split at h
  .rename_i hc;split at h
   .cases h
   .rename_i v H1 hb;obtain⟨n0,h0⟩:=P7 hT hb;refine⟨n0+1,fun n hn=>?_⟩;obtain⟨n,rfl⟩:∃ i,n=i+1:=⟨n-1,by omega⟩;show ku C (lX C (lT C n) n) f args H=some r;unfold ku;rw[hl];simp only;rw[if_pos hc,h0 n (by omega)];exact h
  .cases h
def Below.none:Below C (fun _ _ _=>none):=by intro f args H r h;cases h
def SL(C:Ctx)(T:Cf):Nat->Cf
 | 0,f,args,H=>T f args H
 | n+1,f,args,H=>match T f args H with
  | some r=>some r
  | none=>ku C (lX C (SL C T n) n) f args H
def D7{T:Cf}(hT:Below C T):∀ n,Below C (SL C T n)
 | 0=>hT
 | n+1=>by
  intro f args H r h;simp only[SL]at h;split at h
  .rename_i r' hr;rw[<- axN h];exact hT _ _ _ _ hr
  .exact F6 (D7 hT n) h
def zI{b b':Frame->Heap->Option Out}(hb:∀ fr H out,b fr H=some out->b' fr H=some out):∀ {j j':Nat} {fr:Frame} {H:Heap} {out:Out},j<=j'->qG b j fr H=some out->qG b' j' fr H=some out
 | 0,j',fr,H,out,_,h=>by simp[qG]at h
 | j+1,j',fr,H,out,hj,h=>by
  obtain⟨j',rfl⟩:∃ i,j'=i+1:=⟨j'-1,by omega⟩;simp only[qG]at h ⊢;split at h
  .rename_i fr' H' hc;rw[hb _ _ _ hc];exact zI hb (by omega) h
  .rename_i hne;rw[hb _ _ _ h];obtain⟨ex,fr',H'⟩:=out;cases ex with
   | normal=>exact absurd h (hne _ _)
   | exit id=>rfl
   | ret=>rfl
def iV{T:Cf}{f m k k':Nat}(hk:k<=k'):(c:Code)->∀ (fr:Frame) (H:Heap) (out:Out),exec C T f m k c fr H=some out->exec C T f m k' c fr H=some out
 | .skip,fr,H,out,h=>h
 | .region id ops draw,fr,H,out,h=>h
 | .seq a b,fr,H,out,h=>by
  simp only[exec]at h ⊢;split at h
  .rename_i fr' H' ha;rw[iV hk a _ _ _ ha];exact iV hk b _ _ _ h
  .rename_i hne;rw[iV hk a _ _ _ h];obtain⟨ex,fr',H'⟩:=out;cases ex with
   | normal=>exact absurd h (hne _ _)
   | exit id=>rfl
   | ret=>rfl
 | .cond c a b,fr,H,out,h=>by
  simp only[exec]at h ⊢;split at h
  .rename_i d hd;cases d with
   | true=>exact iV hk a _ _ _ h
   | false=>exact iV hk b _ _ _ h
  .cases h
 | .block id c,fr,H,out,h=>by
  simp only[exec]at h ⊢;split at h
  .rename_i id' fr' H' hc;rw[iV hk c _ _ _ hc];exact h
  .rename_i hne;rw[iV hk c _ _ _ h];obtain⟨ex,fr',H'⟩:=out;cases ex with
   | normal=>rfl
   | exit id=>exact absurd h (hne _ _ _)
   | ret=>rfl
 | .loop c,fr,H,out,h=>by
  simp only[exec]at h ⊢;exact zI (iV hk c) hk h
 | .exit id,fr,H,out,h=>h
 | .ret,fr,H,out,h=>h
 | .scope ..,fr,H,out,h=>by simp[exec]at h
 | .label ..,fr,H,out,h=>by simp[exec]at h
 | .goto ..,fr,H,out,h=>by simp[exec]at h
 | .refuse ..,fr,H,out,h=>by simp[exec]at h
 | .rangeFunc ..,fr,H,out,h=>by simp[exec]at h
def Run(C:Ctx)(T:Cf)(f m:Nat)(c:Code)(fr:Frame)(H:Heap)(out:Out):Prop:=∃ k,exec C T f m k c fr H=some out
variable {T:Cf}{f m:Nat}{fr fr':Frame}{H H':Heap}{out:Out}
def Run.seq{a b:Code}(h:Run C T f m a fr H ⟨.normal,fr',H'⟩)(h':Run C T f m b fr' H' out):Run C T f m (.seq a b) fr H out:=by
 obtain⟨k0,h0⟩:=h;obtain⟨k1,h1⟩:=h';refine⟨max k0 k1,?_⟩;simp only[exec];rw[iV (Nat.le_max_left k0 k1) a _ _ _ h0];exact iV (Nat.le_max_right k0 k1) b _ _ _ h1
def Run.bK{a b:Code}(h:Run C T f m a fr H out)(hne:out.ex≠.normal):Run C T f m (.seq a b) fr H out:=by
 obtain⟨k0,h0⟩:=h;refine⟨k0,?_⟩;simp only[exec];rw[h0];obtain⟨ex,fr',H'⟩:=out;cases ex with
 | normal=>exact absurd rfl hne
 | exit id=>rfl
 | ret=>rfl
def Run.cond{c:Operand}{a b:Code}{d:Bool}(hc:aJ C fr c=.bool d)(h:Run C T f m (if d then a else b) fr H out):Run C T f m (.cond c a b) fr H out:=by
 obtain⟨k0,h0⟩:=h;refine⟨k0,?_⟩;simp only[exec];rw[hc];cases d<;>exact h0
def Run.iM{id:Nat}{c:Code}(h:Run C T f m c fr H ⟨.exit id,fr',H'⟩):Run C T f m (.block id c) fr H ⟨.normal,fr',H'⟩:=by
 obtain⟨k0,h0⟩:=h;refine⟨k0,?_⟩;simp only[exec];rw[h0];simp
def Run.block{id:Nat}{c:Code}(h:Run C T f m c fr H out)(hne:out.ex≠.exit id):Run C T f m (.block id c) fr H out:=by
 obtain⟨k0,h0⟩:=h;refine⟨k0,?_⟩;simp only[exec];rw[h0];obtain⟨ex,fr',H'⟩:=out;cases ex with
 | normal=>rfl
 | exit id'=>
  have:id'≠id:=fun e=>hne (by rw[e]);simp[this]
 | ret=>rfl
def Run.yG{c:Code}(h:Run C T f m c fr H ⟨.normal,fr',H'⟩)(h':Run C T f m (.loop c) fr' H' out):Run C T f m (.loop c) fr H out:=by
 obtain⟨k0,h0⟩:=h;obtain⟨k1,h1⟩:=h';refine⟨max k0 k1+1,?_⟩;simp only[exec]at h1 ⊢;rw[qG,iV (show k0<=max k0 k1+1 by omega) c _ _ _ h0];exact zI (iV (show k1<=max k0 k1+1 by omega) c) (by omega) h1
def Run.AB{c:Code}(h:Run C T f m c fr H out)(hne:out.ex≠.normal):Run C T f m (.loop c) fr H out:=by
 obtain⟨k0,h0⟩:=h;refine⟨k0+1,?_⟩;simp only[exec];rw[qG,iV (show k0<=k0+1 by omega) c _ _ _ h0];obtain⟨ex,fr',H'⟩:=out;cases ex with
 | normal=>exact absurd rfl hne
 | exit id=>rfl
 | ret=>rfl
def Run.mY{c:Code}{σ:Type}(I:σ->Prop)(fr:σ->Frame)(H:σ->Heap)(out:σ->Out)(μ:σ->Nat)
 (step:∀ s,I s->(∃ s',I s'/\Run C T f m c (fr s) (H s) ⟨.normal,fr s',H s'⟩/\out s'=out s/\μ s'<μ s)\/(Run C T f m c (fr s) (H s) (out s)/\(out s).ex≠.normal))(s:σ)(hs:I s) :
 Run C T f m (.loop c) (fr s) (H s) (out s):=by
 generalize hn:μ s=n;induction n using Nat.strongRecOn generalizing s with
 | _ n ih=>
  rcases step s hs with⟨s',h0,h1,h2,h3⟩|⟨h1,h2⟩
  .rw [<- h2];exact Run.yG h1 (ih (μ s') (by omega) s' h0 rfl)
  .exact Run.AB h1 h2
def Ev1.of{T:Cf}(hT:Below C T){f:Nat}{args:List AV}{H:Heap}{r:AV×Heap}{fn:Func}{c:Code}{as:List AV}{aN:List fB}{out:Out}{l:List AV}
 (hF:C.P.funcs[f]?=some fn)(hb:fn.body=some c)(hl:aH C f H 0 args=some (as,aN))
 (hc:((aN.all fun x=>disjoint x.objs (reach H aA (aC as) []))&&decide (as.length+1<dA))=true)
 (he:Run C T f ((reach H aA (aC as) []).length) c (numbered 0 (coerce C (bU (bV H (reach H aA (aC as) [])) (fun t=>t) as) (aI C f)))
  ((reach H aA (aC as) []).map fun o=>(aP H o).map (aQ (bV H (reach H aA (aC as) [])) (fun _=>as.length+1) 0)) out)
 (hex:out.ex=.normal\/out.ex=.ret)(hr:aT C out.fr out.H fn.results.toList=some l)
 (hw:wrap H (reach H aA (aC as) []) (aN++[⟨[],au ((reach H aA (aC as) []).map (aP H))⟩]) (aG l) out.H=some r):Ev1 C f args H r:=by
 obtain⟨k,hk⟩:=he;refine F6 hT (k:=k) ?_;unfold ku;rw[hl];simp only;rw[if_pos hc];have:lX C T k f (coerce C (bU (bV H (reach H aA (aC as) [])) (fun t=>t) as) (aI C f))
  ((reach H aA (aC as) []).map fun o=>(aP H o).map (aQ (bV H (reach H aA (aC as) [])) (fun _=>as.length+1) 0))=some (aG l,out.H):=by
  unfold lX;rw[hF];simp only;rw[hb];simp only[ayB];rw[hk];obtain⟨ex,fr',H'⟩:=out;simp only at hex hr ⊢;rcases hex with rfl|rfl<;>simp[hr]
 rw[this];exact hw
def F7{H:Heap}{t:Nat}{a:AV}(hi:ids a=[]):dS H t a=dS [] t a/\∀ r,dS H t a=some r->r.2.objs=[]/\ids r.1=[]:=by
 cases a
 case sl o off len g=>simp[ids]at hi
 case ro c p t'=>
  refine⟨rfl,fun r h=>?_⟩;simp only[dS,axH]at h;subst h;exact⟨rfl,rfl⟩
 case jl p i f t'=>
  refine⟨rfl,fun r h=>?_⟩;simp only[dS,axH]at h;subst h;exact⟨rfl,rfl⟩
 all_goals
  refine⟨rfl,fun r h=>?_⟩;simp only[dS]at h;split at h
  .simp only[axH]at h;subst h;exact⟨rfl,hi⟩
  .cases h
def zJ{H:Heap}{t:Nat}:∀ {l:List AV},aC l=[]->iC H t l=iC [] t l/\∀ r,iC H t l=some r->r.2.objs=[]/\aC r.1=[]
 | [],_=>⟨rfl,fun r h=>by simp only[iC,axH]at h;subst h;exact⟨rfl,rfl⟩⟩
 | a::l,hi=>by
  simp only[aC,aza]at hi;obtain⟨h1,h2⟩:=F7 (H:=H) (t:=t) hi.1;obtain⟨h3,h4⟩:=zJ (H:=H) (t:=t) hi.2;refine⟨by simp only[iC,h1,h3],fun r h=>?_⟩;simp only[iC]at h;split at h
  .rename_i a' x r' y e1 e2;simp only[axH]at h;subst h;obtain⟨q1,q2⟩:=h2 _ e1;obtain⟨q3,q4⟩:=h4 _ e2;exact⟨by simp only at q1 q3 ⊢;rw[q1,q3];rfl,by simp only[aC]at q2 q4 ⊢;rw[q2,q4];rfl⟩
  .cases h
def P8{H:Heap}{t:Nat}{a:AV}(hi:ids a=[]):dY H t a=dY [] t a/\∀ r,dY H t a=some r->r.2.objs=[]/\ids r.1=[]:=by
 unfold dY;split
 .rename_i l;obtain⟨h1,h2⟩:=zJ (H:=H) (t:=t) (l:=l) (by simpa[ids]using hi);refine⟨by rw[h1],fun r h=>?_⟩;cases hl:iC H t l with
  | none=>rw[hl]at h;cases h
  | some z=>
   rw[hl]at h;simp only[axM,axH]at h;subst h;obtain⟨q1,q2⟩:=h2 _ hl;exact⟨q1,by simpa[ids]using q2⟩
 .rename_i f l;obtain⟨h1,h2⟩:=zJ (H:=H) (t:=t) (l:=l) (by simpa[ids]using hi);refine⟨by rw[h1],fun r h=>?_⟩;cases hl:iC H t l with
  | none=>rw[hl]at h;cases h
  | some z=>
   rw[hl]at h;simp only[axM,axH]at h;subst h;obtain⟨q1,q2⟩:=h2 _ hl;exact⟨q1,by simpa[ids]using q2⟩
 .exact F7 hi
def y8{f:Nat}{H:Heap}:∀ {args:List AV} {i:Nat},aC args=[]->aH C f H i args=aH C f [] i args/\∀ r,aH C f H i args=some r->(∀ x∈r.2,x.objs=[])/\aC r.1=[]
 | [],i,_=>⟨rfl,fun r h=>by simp only[aH,axH]at h;subst h;simp[aC]⟩
 | a::l,i,hi=>by
  simp only[aC,aza]at hi;obtain⟨h1,h2⟩:=P8 (H:=H) (t:=i+1) hi.1;obtain⟨h3,h4⟩:=y8 (f:=f) (H:=H) (i:=i+1) hi.2;have e:∀ H:Heap,aH C f H i (a::l)=match dY H (i+1) a,aH C f H (i+1) l with
   | some (a',x),some (r',y)=>some (a'::r',x::y)
   | _,_=>none:=by
   intro H;clear h1 h2 h3 h4;cases a
   case sl o off len g=>simp[ids]at hi
   all_goals
    simp only[aH];generalize dY H (i+1) _=x;generalize aH C f H (i+1) l=y;cases C.rw f i<;>rcases x with _|⟨_,_⟩<;>rcases y with _|⟨_,_⟩<;>rfl
  rw[e,e,h1,h3];refine⟨rfl,fun r h=>?_⟩;rw[<- h1,<- h3]at h;split at h
  .rename_i a' x r' y e1 e2;simp only[axH]at h;subst h;obtain⟨q1,q2⟩:=h2 _ e1;obtain⟨q3,q4⟩:=h4 _ e2;refine⟨fun z hz=>?_,by simp only[aC]at q2 q4 ⊢;rw[q2,q4];rfl⟩;rcases ax2.1 hz with rfl|hz
   .exact q1
   .exact q3 z hz
  .cases h
def uY(H:Heap)(acc:List Nat):∀ n,reach H n [] acc=acc
 | 0=>rfl
 | _+1=>rfl
def xu(n:Nat)(o g:Nat):Option (Nat×Nat):=some (o+n,g)
def dL(n:Nat)(v:AV):AV:=ren (xu n) (fun t=>t) v
def lI(n:Nat)(N:Heap):Heap:=N.map fun x=>x.map fun ob=>aQ (xu n) (fun t=>t) ob.g ob
mutual
def rJ{ρ ρ':Nat->Nat->Option (Nat×Nat)}{τ:Nat->Nat}{n:Nat}(h:∀ o g,ρ' o g=(ρ o g).map fun x=>(x.1+n,x.2)):(v:AV)->ren ρ' τ v=dL n (ren ρ τ v)
 | .ptr o i f g=>by
  simp only[ren,h];rcases ρ o g with _|⟨a,b⟩<;>simp[dL,ren,xu]
 | .sl o off len g=>by
  simp only[ren,h];rcases ρ o g with _|⟨a,b⟩<;>simp[dL,ren,xu]
 | .map o g=>by
  simp only[ren,h];rcases ρ o g with _|⟨a,b⟩<;>simp[dL,ren,xu]
 | .ro c p t=>by simp[ren,dL]
 | .jl p i f t=>by simp[ren,dL]
 | .agg p=>by simp only[ren,dL,rJ h p]
 | .tup l=>by simp only[ren,dL,pz h l]
 | .fn f l=>by simp only[ren,dL,pz h l]
 | .pc l=>by simp only[ren,dL,pz h l]
 | .pr e l=>by simp only[ren,dL,pz h l]
 | .pm l=>by simp only[ren,dL,pz h l]
 | .top=>by simp[ren,dL]
 | .bool _=>by simp[ren,dL]
 | .int _ _=>by simp[ren,dL]
 | .str _=>by simp[ren,dL]
 | .gZ=>by simp[ren,dL]
 | .jS=>by simp[ren,dL]
 | .iL=>by simp[ren,dL]
 | .pn=>by simp[ren,dL]
 | .pb _=>by simp[ren,dL]
 | .pi _ _=>by simp[ren,dL]
def pz{ρ ρ':Nat->Nat->Option (Nat×Nat)}{τ:Nat->Nat}{n:Nat}(h:∀ o g,ρ' o g=(ρ o g).map fun x=>(x.1+n,x.2)):(l:List AV)->bU ρ' τ l=bU (xu n) (fun t=>t) (bU ρ τ l)
 | []=>rfl
 | a::r=>by
  have h1:=rJ (τ:=τ) h a;simp only[dL]at h1;simp only[bU,h1,pz h r]
end
def xA:∀ (l:List Nat) (o i n:Nat),idxOf l o (i+n)=(idxOf l o i).map (·+n)
 | [],_,_,_=>rfl
 | a::r,o,i,n=>by
  simp only[idxOf];split
  .rfl
  .rw [show i+n+1=(i+1)+n by omega,xA r o (i+1) n]
def Ev1.frame{f:Nat}{args:List AV}{v:AV}{N:Heap}(h:Ev1 C f args [] (v,N))(hi:aC args=[])(H:Heap):Ev1 C f args H (dL H.length v,H++lI H.length N):=by
 obtain⟨n0,h0⟩:=h;refine⟨n0+1,fun n hn=>?_⟩;obtain⟨n,rfl⟩:∃ i,n=i+1:=⟨n-1,by omega⟩;have h1:=h0 (n+1) (by omega);simp only[lT,ku]at h1 ⊢;obtain⟨e1,e2⟩:=y8 (C:=C) (f:=f) (H:=H) (i:=0) hi;rw[e1];split at h1
 .cases h1
 .rename_i as aN hl;obtain⟨e3,e4⟩:=e2 _ (e1.trans hl);simp only at e3 e4 h1 ⊢;rw[e4]at h1 ⊢;simp only[uY,aye,ax3]at h1 ⊢;have Yn:∀ (H H':Heap) (l:List AV),bU (bV H []) (fun t=>t) l=bU (bV H' []) (fun t=>t) l:=by
   intro H H' l;have:bV H []=bV H' []:=by funext o g;unfold bV;split<;>split<;>simp[idxOf]
   rw[this]
  rw[Yn H []];split at h1
  .rename_i hc;rw[if_pos hc];split at h1
   .cases h1
   .rename_i u H1 hb;unfold wrap at h1 ⊢;simp only[ax3,ay4,ax8,aye,au,ax1]at h1 ⊢;split at h1
    .rename_i hu;rw[if_pos hu];generalize (List.filter (fun o=>decide (0<=o)) (reach H1 aA (ids u) []))=new at h1 ⊢;have EG:∀ o g,aY H [] new H1 o g=(aY [] [] new H1 o g).map fun x=>(x.1+H.length,x.2):=by
      intro o g;unfold aY;split
      .have:=xA new o 0 H.length;rw[ayg]at this;simp[this,Option.map_map,Function.comp_def]
      .rfl
     have Yo:∀ t,dN (aN++[⟨[],[]⟩]) t=[]:=by
      intro t;unfold dN;split
      .rfl
      .split
       .rename_i x hx;rcases axV.1 (axT hx)with hx|hx
        .exact e3 x hx
        .simp only[ayb]at hx;rw[hx]
       .rfl
     have hfl:∀ l:List Nat,l.flatMap (dN (aN++[⟨[],[]⟩]))=[]:=fun l=>by simp[Yo]
     simp only[hfl,ayt]at h1 ⊢;simp only[ayt,strike,bP,ax8,axH,axJ]at h1 ⊢;obtain⟨h2,h3⟩:=h1;refine⟨by rw[<- h2];exact rJ EG u,?_⟩;rw[<- h3];congr 1;simp only[lI,ay1];refine ayC fun o _=>?_;simp only[Function.comp];cases aP H1 o with
     | none=>rfl
     | some ob=>
      simp only[axM,aQ,axH];have:=rJ (τ:=bW (aN++[⟨[],[]⟩])) EG ob.p;simp only[dL]at this;rw[this]
    .cases h1
  .cases h1
end
structure Row1 where
 f:Nat
 args:List AV
 res:AV
 N:Heap
def lJ(C:Ctx)(L:List Row1):Prop:=∀ e∈L,Ev1 C e.f e.args [] (e.res,e.N)/\aC e.args=[]
def lJ.nil{C:Ctx}:lJ C []:=by intro e h;simp at h
def F8(C:Ctx)(T:Cf)(n:Nat)(e:Row1):Bool :=
 (aC e.args).isEmpty&&(match ku C (lX C (SL C T n) n) e.f e.args []with
  | some (v,N)=>jg v e.res&&eqH N e.N
  | none=>false)
def lJ.cons{C:Ctx}{T:Cf}(hT:Below C T){L:List Row1}(hL:lJ C L){n:Nat}{e:Row1}(h:F8 C T n e=true):lJ C (e::L):=by
 intro x hx;rcases ax2.1 hx with rfl|hx
 .unfold F8 at h;simp only[ax4,azG]at h;refine⟨?_,h.1⟩;have h2:=h.2;split at h2
  .rename_i v N hv;simp only[ax4]at h2;rw[<- yH _ _ h2.1,<- zK h2.2];exact F6 (D7 hT n) hv
  .cases h2
 .exact hL x hx
def fJ(H:Heap):AV->Option AV
 | .ro _ p _=>some p
 | .sl o off len g=>match live H o g with
  | some ob=>if ob.ids then none else gq ob.p off len
  | none=>none
 | _=>none
def Yp{H:Heap}{t:Nat}{a p:AV}(h:fJ H a=some p):∃ c x,dY H t a=some (.ro c p t,x):=by
 cases a<;>simp only[fJ,reduceCtorEq]at h
 case ro c q t'=>
  simp only[axH]at h;subst h;exact⟨c,_,rfl⟩
 case sl o off len g=>
  split at h
  .rename_i ob hl;split at h
   .cases h
   .rename_i hi;exact⟨if ob.z=0/\ah ob.p=0 then 0 else 2,⟨[o],[ob.tg]⟩,by simp[dY,dS,hl,hi,h]⟩
  .cases h
def y9:AV->Bool
 | .bool _ | .int _ _ | .str _ | .gZ | .jS | .iL=>true
 | .agg (.pb _) | .agg (.pi _ _)=>true
 | _=>false
def UO{H:Heap}{t:Nat}{a:AV}(h:y9 a=true):dY H t a=some (a,⟨[],[]⟩):=by
 cases a<;>simp only[y9,axZ]at h<;>try rfl
 case agg p=>cases p<;>simp only[y9,axZ]at h<;>rfl
def MS{a:AV}(h:y9 a=true):ids a=[]/\tags a=[]:=by
 cases a<;>simp only[y9,axZ]at h<;>try exact⟨rfl,rfl⟩
 case agg p=>cases p<;>simp only[y9,axZ]at h<;>exact⟨rfl,rfl⟩
def faV(H:Heap)(x:AV)(off:Nat):Option AV :=
 match x with
 | .ptr o i f g=>match live H o g with|some ob=>some (AL ob.p o i f g off)|none=>none
 | .jl p i f t=>some (AO p i f t off)
 | _=>none
def fvV(C:Ctx)(x:AV)(off ty:Nat):Option AV :=
 match x with
 | .agg (.pc l)=>
  if bI C ty then
   if((l.drop off).take (sizeT C ty)).length=sizeT C ty then(nV C ty ((l.drop off).take (sizeT C ty))).map .agg else none
  else if okT C ty then l[off]? else none
 | _=>none
def bJ{C:Ctx}{s:TypeId}{n off:Nat}{ty:TypeId}(h:((fieldsOf C s)[n]?).map (fun fd=>(fd.offset,fd.type))=some (off,ty))(hs:(sizeT C ty==0)=false)(H:Heap)(x:AV) :
 bF C H s x n=faV H x off:=by
 cases hf:(fieldsOf C s)[n]? with
 | none=>rw[hf]at h;cases h
 | some fd=>
  rw[hf]at h;simp only[axM,axH,axJ]at h;obtain⟨rfl,rfl⟩:=h;have:¬ sizeT C fd.type=0:=by simpa using hs
  unfold bF faV;rw[hf];simp only[if_neg this];cases x<;>rfl
section
variable {C:Ctx}{f:Nat}{H:Heap}
def dR(i:Nat):aH C f H i []=some ([],[]):=rfl
def iy{i:Nat}{a p:AV}{r as:List AV}{xs:List fB}(hrw:C.rw f i=false)(h:fJ H a=some p)(hr:aH C f H (i+1) r=some (as,xs)) :
 ∃ c x,aH C f H i (a::r)=some (.ro c p (i+1)::as,x::xs):=by
 obtain⟨c,x,hx⟩:=Yp (t:=i+1) h;exact⟨c,x,by simp only[aH,hrw,hx,hr]⟩
def dX{i:Nat}{a:AV}{r as:List AV}{xs:List fB}(hrw:C.rw f i=false)(h:y9 a=true)(hr:aH C f H (i+1) r=some (as,xs)) :
 aH C f H i (a::r)=some (a::as,⟨[],[]⟩::xs):=by
 simp only[aH,hrw,UO h,hr]
def dH(H:Heap):reach H aA [] []=[]:=uY H [] aA
mutual
def gX{ρ:Nat->Nat->Option (Nat×Nat)}{τ:Nat->Nat}:(v:AV)->ids v=[]->(∀ t∈tags v,τ t=t)->ren ρ τ v=v
 | .ptr ..,h,_=>by simp[ids]at h
 | .sl ..,h,_=>by simp[ids]at h
 | .map ..,h,_=>by simp[ids]at h
 | .ro c p t,_,ht=>by simp only[ren,ht t (by simp[tags])]
 | .jl p i f t,_,ht=>by simp only[ren,ht t (by simp[tags])]
 | .agg p,h,ht=>by simp only[ids]at h;simp only[tags]at ht;simp only[ren,gX p h ht]
 | .tup l,h,ht=>by simp only[ids]at h;simp only[tags]at ht;simp only[ren,dZ l h ht]
 | .fn f l,h,ht=>by simp only[ids]at h;simp only[tags]at ht;simp only[ren,dZ l h ht]
 | .pc l,h,ht=>by simp only[ids]at h;simp only[tags]at ht;simp only[ren,dZ l h ht]
 | .pr e l,h,ht=>by simp only[ids]at h;simp only[tags]at ht;simp only[ren,dZ l h ht]
 | .pm l,h,ht=>by simp only[ids]at h;simp only[tags]at ht;simp only[ren,dZ l h ht]
 | .top,_,_=>rfl
 | .bool _,_,_=>rfl
 | .int _ _,_,_=>rfl
 | .str _,_,_=>rfl
 | .gZ,_,_=>rfl
 | .jS,_,_=>rfl
 | .iL,_,_=>rfl
 | .pn,_,_=>rfl
 | .pb _,_,_=>rfl
 | .pi _ _,_,_=>rfl
def dZ{ρ:Nat->Nat->Option (Nat×Nat)}{τ:Nat->Nat}:(l:List AV)->aC l=[]->(∀ t∈aW l,τ t=t)->bU ρ τ l=l
 | [],_,_=>rfl
 | a::r,h,ht=>by
  simp only[aC,aza]at h;simp only[aW,axV]at ht;simp only[bU,gX a h.1 (fun t h'=>ht t (.inl h')),dZ r h.2 (fun t h'=>ht t (.inr h'))]
end
mutual
def fV{ρ ρ':Nat->Nat->Option (Nat×Nat)}{τ τ':Nat->Nat}:(v:AV)->(∀ o g,o∈ids v->ρ o g=ρ' o g)->(∀ t∈tags v,τ t=τ' t)->ren ρ τ v=ren ρ' τ' v
 | .ptr o i f g,h,_=>by simp only[ren,h o g (by simp[ids])]
 | .sl o a b g,h,_=>by simp only[ren,h o g (by simp[ids])]
 | .map o g,h,_=>by simp only[ren,h o g (by simp[ids])]
 | .ro c p t,_,ht=>by simp only[ren,ht t (by simp[tags])]
 | .jl p i f t,_,ht=>by simp only[ren,ht t (by simp[tags])]
 | .agg p,h,ht=>by simp only[ids]at h;simp only[tags]at ht;simp only[ren,fV p h ht]
 | .tup l,h,ht=>by simp only[ids]at h;simp only[tags]at ht;simp only[ren,rM l h ht]
 | .fn f l,h,ht=>by simp only[ids]at h;simp only[tags]at ht;simp only[ren,rM l h ht]
 | .pc l,h,ht=>by simp only[ids]at h;simp only[tags]at ht;simp only[ren,rM l h ht]
 | .pr e l,h,ht=>by simp only[ids]at h;simp only[tags]at ht;simp only[ren,rM l h ht]
 | .pm l,h,ht=>by simp only[ids]at h;simp only[tags]at ht;simp only[ren,rM l h ht]
 | .top,_,_=>rfl
 | .bool _,_,_=>rfl
 | .int _ _,_,_=>rfl
 | .str _,_,_=>rfl
 | .gZ,_,_=>rfl
 | .jS,_,_=>rfl
 | .iL,_,_=>rfl
 | .pn,_,_=>rfl
 | .pb _,_,_=>rfl
 | .pi _ _,_,_=>rfl
def rM{ρ ρ':Nat->Nat->Option (Nat×Nat)}{τ τ':Nat->Nat}:(l:List AV)->(∀ o g,o∈aC l->ρ o g=ρ' o g)->(∀ t∈aW l,τ t=τ' t)->bU ρ τ l=bU ρ' τ' l
 | [],_,_=>rfl
 | a::r,h,ht=>by
  simp only[aC,axV]at h;simp only[aW,axV]at ht;simp only[bU,fV a (fun o g h'=>h o g (.inl h')) (fun t h'=>ht t (.inl h')),rM r (fun o g h'=>h o g (.inr h')) (fun t h'=>ht t (.inr h'))]
end
def jm(l:List Nat):disjoint l []=true:=iT.2 fun _ _ h=>by simp at h
def P9{aN:List fB}{v:AV}{H1:Heap}(hi:ids v=[])(ht:tags v=[]):wrap H [] aN v H1=some (v,H):=by
 unfold wrap;simp only[ax3,ay4,ax8,hi,dH,ayt,aye,ht,au,ax1,aAf,if_true,azK,strike,bP];rw[gX v hi (by simp[ht])]
def fresh(ob:Obj):Obj:={ ob with g:=0,tg:=0 }
def rY:AV->Bool
 | .pb _ | .pi _ _ | .pn=>true
 | _=>false
def F9{ρ:Nat->Nat->Option (Nat×Nat)}{τ:Nat->Nat}{p:AV}(h:rY p=true):ren ρ τ p=p:=by
 cases p<;>simp[rY]at h<;>rfl
def yI{H1:Heap}{o:Nat}{ob:Obj}(ho:H1[o]?=some (some ob))(hob:ob.ids=false):reach H1 aA [o] []=[o]:=by
 show reach H1 (99998+1+1) [o] []=[o];simp[reach,ho,hob]
def Yq{aN:List fB}{v:AV}{H1:Heap}{o g:Nat}{ob:Obj}(hi:ids v=[o])(ht:tags v=[])(hl:live H1 o g=some ob)(hob:ob.ids=false)(hp:rY ob.p=true)(htg:ob.tg=0) :
 wrap H [] aN v H1=some (ren (fun o' g'=>if o'=o/\g'=g then some (H.length,0)else none) (fun t=>t) v,H++[some (fresh ob)]):=by
 obtain⟨h1,h2⟩:=cZ.1 hl;unfold wrap;have hat:aP H1 o=some ob:=by simp[aP,h1]
 have Yr:dn ob=[0]:=by unfold dn;rw[hob,htg];cases hq:ob.p<;>simp[hq,rY]at hp<;>simp
 have hρ:ren (aY H [] [o] H1) (bW aN) v=ren (fun o' g'=>if o'=o/\g'=g then some (H.length,0)else none) (fun t=>t) v:=by
  have key:∀ o' g',o'∈ids v->aY H [] [o] H1 o' g'=if o'=o/\g'=g then some (H.length,0)else none:=by
   intro o' g' hm;rw[hi]at hm;simp only[ayb]at hm;subst hm;unfold aY;by_cases hg:g'=g
   .subst hg;rw[hl];simp[idxOf]
   .have:live H1 o' g'=none:=by simp only[live,h1];rw[if_neg (fun e=>hg (e.symm.trans h2))]
    rw[this];simp[hg]
  exact fV v (fun o' g' hm=>key o' g' hm) (by simp[ht])
 simp only[ax3,ay4,ax8,hi,yI h1 hob,ht,au,ax1,aye,hat,Yr,ax9,ayF,decide_true,azi,ayt,strike,bP];have h0:dP aN 0=some 0:=rfl;simp only[azg,aAf,h0,aAa,aAe,if_true,azv,azK,dN,ax1,ayt,strike,axM,axH,axJ];refine⟨hρ,?_⟩;simp only[aQ,F9 hp,fresh,htg];rfl
variable {T:Cf}
def Ev1.plain(hT:Below C T){args:List AV}{fn:Func}{c:Code}{as:List AV}{aN:List fB}{out:Out}{l:List AV}
 (hF:C.P.funcs[f]?=some fn)(hb:fn.body=some c)(hl:aH C f H 0 args=some (as,aN))(hi:aC as=[])(hn:as.length+1<dA)
 (he:Run C T f 0 c (numbered 0 (coerce C as (aI C f))) [] out)(hex:out.ex=.normal\/out.ex=.ret)(hr:aT C out.fr out.H fn.results.toList=some l)
 (hv:ids (aG l)=[])(ht:tags (aG l)=[]):Ev1 C f args H (aG l,H):=by
 refine Ev1.of hT hF hb hl ?_ ?_ hex hr ?_
 .rw [hi,dH];simp only[ax4,decide_eq_true_eq];exact⟨ax5.2 fun x _=>jm x.objs,hn⟩
 .rw [hi,dH,dZ as hi (fun _ _=>rfl)];exact he
 .rw [hi,dH];exact P9 hv ht
def Ev1.fresh(hT:Below C T){args:List AV}{fn:Func}{c:Code}{as:List AV}{aN:List fB}{out:Out}{l:List AV}{o g:Nat}{ob:Obj}
 (hF:C.P.funcs[f]?=some fn)(hb:fn.body=some c)(hl:aH C f H 0 args=some (as,aN))(hi:aC as=[])(hn:as.length+1<dA)
 (he:Run C T f 0 c (numbered 0 (coerce C as (aI C f))) [] out)(hex:out.ex=.normal\/out.ex=.ret)(hr:aT C out.fr out.H fn.results.toList=some l)
 (hv:ids (aG l)=[o])(ht:tags (aG l)=[])(ho:live out.H o g=some ob)(hob:ob.ids=false)(hp:rY ob.p=true)(htg:ob.tg=0) :
 Ev1 C f args H (ren (fun o' g'=>if o'=o/\g'=g then some (H.length,0)else none) (fun t=>t) (aG l),H++[some (AM.fresh ob)]):=by
 refine Ev1.of hT hF hb hl ?_ ?_ hex hr ?_
 .rw [hi,dH];simp only[ax4,decide_eq_true_eq];exact⟨ax5.2 fun x _=>jm x.objs,hn⟩
 .rw [hi,dH,dZ as hi (fun _ _=>rfl)];exact he
 .rw [hi,dH];exact Yq hv ht ho hob hp htg
end
-- what a call tells of what is adF,whatever the form in which it is handed over
section
variable {C:Ctx}{f:Nat}{H:Heap}
def Gf{t:Nat}{a a':AV}{x:fB}(h:dS H t a=some (a',x))(hi:ids a'=[]) :
 ∃ y:fB,(∀ H2,dS H2 t a'=some (a',y))/\(∀ s∈y.tags,s=t)/\y.objs=[]/\(y.tags=[]->x.tags=[]/\x.objs=[]):=by
 cases a
 case sl o off len g=>
  simp only[dS]at h;split at h
  .rename_i ob hl;split at h
   .cases h
   .simp only[ax7,axJ]at h;obtain⟨p,_,rfl,rfl⟩:=h;exact⟨⟨[],[t]⟩,fun _=>rfl,by simp,rfl,by simp⟩
  .cases h
 case ro c p t'=>
  simp only[dS,axH,axJ]at h;obtain⟨rfl,rfl⟩:=h;exact⟨⟨[],[t]⟩,fun _=>rfl,by simp,rfl,by simp⟩
 case jl p i g t'=>
  simp only[dS,axH,axJ]at h;obtain⟨rfl,rfl⟩:=h;exact⟨⟨[],[t]⟩,fun _=>rfl,by simp,rfl,by simp⟩
 all_goals
  simp only[dS]at h;split at h
  .rename_i ht;simp only[axH,axJ]at h;obtain⟨rfl,rfl⟩:=h;exact⟨⟨[],[]⟩,fun _=>by simp only[dS];rw[if_pos ht],by simp,rfl,fun _=>⟨rfl,rfl⟩⟩
  .cases h
def zL{t:Nat}:∀ {l l':List AV} {x:fB},iC H t l=some (l',x)->aC l'=[] ->
 ∃ y:fB,(∀ H2,iC H2 t l'=some (l',y))/\(∀ s∈y.tags,s=t)/\y.objs=[]/\(y.tags=[]->x.tags=[]/\x.objs=[])
 | [],l',x,h,_=>by
  simp only[iC,axH,axJ]at h;obtain⟨rfl,rfl⟩:=h;exact⟨⟨[],[]⟩,fun _=>rfl,by simp,rfl,fun _=>⟨rfl,rfl⟩⟩
 | a::l,l',x,h,hi=>by
  simp only[iC]at h;split at h
  .rename_i a' x1 r' x2 e1 e2;simp only[axH,axJ]at h;obtain⟨rfl,rfl⟩:=h;simp only[aC,aza]at hi;obtain⟨y1,q1,q2,q3,q4⟩:=Gf e1 hi.1;obtain⟨y2,p1,p2,p3,p4⟩:=zL e2 hi.2;refine⟨⟨y1.objs++y2.objs,y1.tags++y2.tags⟩,fun H2=>by simp only[iC,q1,p1],?_,by simp[q3,p3],?_⟩
   .intro s hs;rcases axV.1 hs with hs|hs
    .exact q2 s hs
    .exact p2 s hs
   .intro hy;simp only[aza]at hy;obtain⟨h1,h2⟩:=q4 hy.1;obtain⟨h3,h4⟩:=p4 hy.2;simp[h1,h2,h3,h4]
  .cases h
def Qa{t:Nat}{a a':AV}{x:fB}(h:dY H t a=some (a',x))(hi:ids a'=[]) :
 ∃ y:fB,(∀ H2,dY H2 t a'=some (a',y))/\(∀ s∈y.tags,s=t)/\y.objs=[]/\(y.tags=[]->x.tags=[]/\x.objs=[]):=by
 unfold dY at h;split at h
 .rename_i l;cases hl:iC H t l with
  | none=>rw[hl]at h;cases h
  | some z=>
   obtain⟨l',x'⟩:=z;rw[hl]at h;simp only[axM,axH,axJ]at h;obtain⟨rfl,rfl⟩:=h;obtain⟨y,q1,q2⟩:=zL hl (by simpa[ids]using hi);exact⟨y,fun H2=>by simp only[dY,q1 H2,axM],q2⟩
 .rename_i g l;cases hl:iC H t l with
  | none=>rw[hl]at h;cases h
  | some z=>
   obtain⟨l',x'⟩:=z;rw[hl]at h;simp only[axM,axH,axJ]at h;obtain⟨rfl,rfl⟩:=h;obtain⟨y,q1,q2⟩:=zL hl (by simpa[ids]using hi);exact⟨y,fun H2=>by simp only[dY,q1 H2,axM],q2⟩
 .rename_i n1 n2;obtain⟨y,q1,q2⟩:=Gf h hi;refine⟨y,fun H2=>?_,q2⟩;unfold dY;split
  .rename_i l;exfalso;cases a<;>simp only[dS]at h<;>first|(split at h<;>first|(simp only[axH,axJ]at h;cases h.1;exact n1 _ rfl)|cases h|skip)|skip
   all_goals simp_all
  .rename_i g l;exfalso;cases a<;>simp only[dS]at h<;>first|(split at h<;>first|(simp only[axH,axJ]at h;cases h.1;exact n2 _ _ rfl)|cases h|skip)|skip
   all_goals simp_all
  .exact q1 H2
def zf:∀ {args as:List AV} {i:Nat} {xs:List fB},aH C f H i args=some (as,xs)->aC as=[] ->
 ∃ ys:List fB,(∀ H2,aH C f H2 i as=some (as,ys))/\ys.length=xs.length /\
  ∀ k y,ys[k]?=some y->∃ x,xs[k]?=some x/\(∀ s∈y.tags,s=i+k+1)/\y.objs=[]/\(y.tags=[]->x.tags=[]/\x.objs=[])
 | [],as,i,xs,h,_=>by
  simp only[aH,axH,axJ]at h;obtain⟨rfl,rfl⟩:=h;exact⟨[],fun _=>rfl,rfl,fun k y h=>by simp at h⟩
 | a::l,as,i,xs,h,hi=>by
  have e:∀ (H:Heap) (a:AV) (l:List AV),ids a=[]->aH C f H i (a::l)=match dY H (i+1) a,aH C f H (i+1) l with
   | some (a',x),some (r',y)=>some (a'::r',x::y)
   | _,_=>none:=by
   intro H a l ha;cases a
   case sl o off len g=>simp[ids]at ha
   all_goals
    simp only[aH];generalize dY H (i+1) _=x;generalize aH C f H (i+1) l=y;cases C.rw f i<;>rcases x with _|⟨_,_⟩<;>rcases y with _|⟨_,_⟩<;>rfl
  simp only[aH]at h;split at h
  .rename_i a' x1 r' x2 e1 e2;simp only[axH,axJ]at h;obtain⟨rfl,rfl⟩:=h;simp only[aC,aza]at hi;have e3:dY H (i+1) a=some (a',x1):=by
    split at e1
    .simp only[axH,axJ]at e1;obtain⟨rfl,rfl⟩:=e1;simp[ids]at hi
    .exact e1
   obtain⟨y1,q1,q2,q3,q4⟩:=Qa e3 hi.1;obtain⟨ys,p1,p2,p3⟩:=zf e2 hi.2;refine⟨y1::ys,fun H2=>by rw[e H2 a' r' hi.1,q1,p1],by simp[p2],fun k y hy=>?_⟩;cases k with
   | zero=>
    simp only[ayf,axH]at hy;subst hy;exact⟨x1,rfl,q2,q3,q4⟩
   | succ k=>
    obtain⟨x,h1,h2,h3⟩:=p3 k y (by simpa using hy);exact⟨x,by simpa using h1,fun s hs=>by rw[h2 s hs];omega,h3⟩
  .cases h
mutual
def jV{ρ:Nat->Nat->Option (Nat×Nat)}{τ:Nat->Nat}:(v:AV)->tags (ren ρ τ v)=(tags v).map τ
 | .ptr o i f g=>by simp only[ren];rcases ρ o g with _|⟨_,_⟩<;>rfl
 | .sl o a b g=>by simp only[ren];rcases ρ o g with _|⟨_,_⟩<;>rfl
 | .map o g=>by simp only[ren];rcases ρ o g with _|⟨_,_⟩<;>rfl
 | .ro c p t=>rfl
 | .jl p i f t=>rfl
 | .agg p=>by simp only[ren,tags,jV p]
 | .tup l=>by simp only[ren,tags,mJ l]
 | .fn f l=>by simp only[ren,tags,mJ l]
 | .pc l=>by simp only[ren,tags,mJ l]
 | .pr e l=>by simp only[ren,tags,mJ l]
 | .pm l=>by simp only[ren,tags,mJ l]
 | .top=>rfl
 | .bool _=>rfl
 | .int _ _=>rfl
 | .str _=>rfl
 | .gZ=>rfl
 | .jS=>rfl
 | .iL=>rfl
 | .pn=>rfl
 | .pb _=>rfl
 | .pi _ _=>rfl
def mJ{ρ:Nat->Nat->Option (Nat×Nat)}{τ:Nat->Nat}:(l:List AV)->aW (bU ρ τ l)=(aW l).map τ
 | []=>rfl
 | a::r=>by simp only[bU,aW,ayy,jV a,mJ r]
end
def Qb{ρ:Nat->Nat->Option (Nat×Nat)}{τ:Nat->Nat}{g:Nat}(ob:Obj):dn (aQ ρ τ g ob)=(dn ob).map τ:=by
 unfold dn aQ;simp only;split
 .exact jV ob.p
 .simp only[ax9,ay3,true_and];cases ob.p<;>simp only[ren,aye]
  case ptr o i f g=>rcases ρ o g with _|⟨_,_⟩<;>rfl
  case sl o a b g=>rcases ρ o g with _|⟨_,_⟩<;>rfl
  case map o g=>rcases ρ o g with _|⟨_,_⟩<;>rfl
  case pm l=>exact mJ l
def vP{ρ:Nat->Nat->Option (Nat×Nat)}{τ:Nat->Nat}{g:Nat->Nat}:∀ (l:List (Option Obj)),au (l.map fun x=>x.map fun ob=>aQ ρ τ (g ob.g) ob)=(au l).map τ
 | []=>rfl
 | none::r=>by simp only[ax9,Option.map_none,au,vP r]
 | some ob::r=>by simp only[ax9,axM,au,ayy,Qb,vP r]
def uD{t:Nat}(ht:t≠0):∀ {l:List Nat},(∀ s∈l,s=t)->l≠[]->bY l=some t
 | [],_,h=>absurd rfl h
 | a::[],h,_=>by
  have:=h a (by simp);subst this;simp[bY,dJ,ht]
 | a::b::r,h,_=>by
  have:=h a (by simp);subst this;have ih:=uD ht (l:=b::r) (fun s hs=>h s (by simp at hs ⊢;right;exact hs)) (by simp);rw[bY,ih];simp[dJ,ht]
def xB(v:AV):Bool:=(tags v).all (·==0)
def rZ(N:Heap):Bool:=N.all fun|some ob=>ob.tg==0&&(tags ob.p).all (·==0)|none=>true
def Qc{v:AV}(h:xB v=true):∀ t∈tags v,t=0:=fun t ht=>by simpa using ax5.1 h t ht
def Gg{N:Heap}(h:rZ N=true){ob:Obj}(ho:some ob∈N):ob.tg=0/\∀ t∈tags ob.p,t=0:=by
 have:=ax5.1 h _ ho;simp only[ax4,beq_iff_eq,ax5]at this;exact this
def aaY{ob:Obj}(h:ob.tg=0/\∀ t∈tags ob.p,t=0):∀ t∈dn ob,t=0:=by
 intro t ht;unfold dn at ht;split at ht
 .exact h.2 t ht
 .rcases ax2.1 ht with rfl|ht
  .exact h.1
  .cases hp:ob.p<;>rw[hp]at ht<;>simp only[ayK]at ht;rw[hp]at h;exact h.2 t ht
def C9:∀ {N:Heap},rZ N=true->∀ t∈au N,t=0
 | [],_,t,ht=>by simp[au]at ht
 | none::r,h,t,ht=>by
  refine C9 (N:=r) ?_ t (by simpa[au]using ht);simpa[rZ]using h
 | some ob::r,h,t,ht=>by
  simp only[au,axV]at ht;rcases ht with ht|ht
  .exact aaY (Gg h (by simp)) t ht
  .refine C9 (N:=r) ?_ t ht;simp only[rZ,azg,ax4]at h;exact h.2
def Ev1.adF{args as:List AV}{xs:List fB}{v:AV}{N:Heap}(h:Ev1 C f as [] (v,N))(hl:aH C f H 0 args=some (as,xs))(hi:aC as=[])
 (hcv:xB v=true)(hcN:rZ N=true):Ev1 C f args H (dL H.length v,H++lI H.length N):=by
 have hv:=Qc hcv;have hN:=C9 hcN;obtain⟨ys,k1,k2,k3⟩:=zf hl hi;obtain⟨n0,h0⟩:=h;have kz:∀ t,bW (ys++[⟨[],[]⟩]) t=0->bW (xs++[⟨[],[]⟩]) t=0:=by
  intro t hb0;unfold bW dP at hb0 ⊢;split
  .rfl
  .rename_i ht0;rw[if_neg ht0]at hb0;by_cases hlt:t-1<ys.length
   .rw [axL hlt,axI hlt]at hb0;simp only at hb0;obtain⟨x,q1,q2,q3,q4⟩:=k3 (t-1) _ (axI hlt);rw[axL (by omega),q1];simp only;have hnil:(ys[t-1]).tags=[]:=by apply Classical.byContradiction;intro hne;have:=uD (t:=0+(t-1)+1) (by omega) q2 hne;rw[this]at hb0;simp at hb0
    rw[(q4 hnil).1];rfl
   .by_cases hlt2:t-1=ys.length
    .have e:(xs++[(⟨[],[]⟩:fB)])[t-1]?=some ⟨[],[]⟩:=by rw[axS (by omega),hlt2,k2];simp
     rw[e];rfl
    .have e:(xs++[(⟨[],[]⟩:fB)])[t-1]?=none:=by rw[ax0];simp;omega
     rw[e];rfl
 refine⟨n0+1,fun n hn=>?_⟩;obtain⟨n,rfl⟩:∃ i,n=i+1:=⟨n-1,by omega⟩;have h1:=h0 (n+1) (by omega);simp only[lT,ku]at h1 ⊢;rw[k1 []]at h1;rw[hl];simp only at h1 ⊢;rw[hi]at h1 ⊢;simp only[uY,aye,ax3]at h1 ⊢;rw[dZ as hi (fun _ _=>rfl)]at h1 ⊢;split at h1
 .rename_i hc;have hc':((xs.all fun x=>disjoint x.objs [])&&decide (as.length+1<dA))=true:=by simp only[ax4]at hc ⊢;exact⟨ax5.2 fun x _=>jm x.objs,hc.2⟩
  rw[if_pos hc'];split at h1
  .cases h1
  .rename_i u H1 hb;unfold wrap at h1 ⊢;simp only[ax3,ay4,ax8,aye,au,ax1]at h1 ⊢;generalize hnew:(List.filter (fun o=>decide (0<=o)) (reach H1 aA (ids u) []))=new at h1 ⊢;split at h1
   .rename_i hu;simp only[axH,axJ]at h1;obtain⟨h2,h3⟩:=h1;have adG:∀ t,dN (ys++[⟨[],[]⟩]) t=[]:=by
     intro t;unfold dN;split
     .rfl
     .split
      .rename_i x hx;rcases axV.1 (axT hx)with hx|hx
       .obtain ⟨k,hk⟩:=List.getElem?_of_mem hx;obtain⟨_,_,_,q,_⟩:=k3 k x hk;exact q
       .simp only[ayb]at hx;rw[hx]
      .rfl
    have arE:∀ l:List Nat,l.flatMap (dN (ys++[⟨[],[]⟩]))=[]:=fun l=>by simp[adG]
    simp only[arE,ayt]at h3;simp only[ayt,strike,bP,ax8]at h3
    -- all tags used are none
    have hz:∀ t∈tags u++au (new.map (aP H1)),bW (ys++[⟨[],[]⟩]) t=0:=by
     intro t ht;rcases axV.1 ht with ht|ht
     .refine hv _ ?_;rw[<- h2,jV];exact ayd.2 ⟨t,ht,rfl⟩
     .refine hN _ ?_;rw[<- h3];have:=vP (ρ:=aY [] [] new H1) (τ:=bW (ys++[⟨[],[]⟩])) (g:=fun _=>0) (new.map (aP H1));rw[ay1]at this;rw[show(fun o=>Option.map (aQ (aY [] [] new H1) (bW (ys++[⟨[],[]⟩])) 0) (aP H1 o))=((fun x:Option Obj=>x.map fun ob=>aQ (aY [] [] new H1) (bW (ys++[⟨[],[]⟩])) 0 ob)∘aP H1) from rfl,this];exact ayd.2 ⟨t,ht,rfl⟩
    have hk:∀ t∈tags u++au (new.map (aP H1)),dP (xs++[⟨[],[]⟩]) t=some 0/\dN (xs++[⟨[],[]⟩]) t=[]:=by
     intro t ht;have hb0:=hz t ht;have hs:=ax5.1 hu t ht;by_cases ht0:t=0
     .subst ht0;exact⟨rfl,rfl⟩
     .unfold bW at hb0;unfold dP at hb0 hs ⊢;unfold dN;rw[if_neg ht0]at hb0 hs ⊢;rw[if_neg ht0];by_cases hlt:t-1<ys.length
      .rw [axL hlt,axI hlt]at hb0 hs;simp only at hb0 hs;obtain⟨x,q1,q2,q3,q4⟩:=k3 (t-1) _ (axI hlt);rw[axL (by omega),q1];simp only;have hnil:(ys[t-1]).tags=[]:=by apply Classical.byContradiction;intro hne;have:=uD (t:=0+(t-1)+1) (by omega) q2 hne;rw[this]at hb0;simp at hb0
       obtain⟨q5,q6⟩:=q4 hnil;rw[q5,q6];exact⟨rfl,rfl⟩
      .by_cases hlt2:t-1=ys.length
       .have e:(xs++[(⟨[],[]⟩:fB)])[t-1]?=some ⟨[],[]⟩:=by rw[axS (by omega),hlt2,k2];simp
        rw[e];exact⟨rfl,rfl⟩
       .have e:(ys++[(⟨[],[]⟩:fB)])[t-1]?=none:=by rw[ax0];simp;omega
        rw[e]at hs;cases hs
    have hu':((tags u++au (new.map (aP H1))).all fun t=>(dP (xs++[⟨[],[]⟩]) t).isSome)=true:=ax5.2 fun t ht=>by rw[(hk t ht).1];rfl
    rw[if_pos hu'];have hfl:(tags u++au (new.map (aP H1))).flatMap (dN (xs++[⟨[],[]⟩]))=[]:=ay6.2 fun t ht=>(hk t ht).2;rw[hfl];simp only[ayt,strike,bP,axH,axJ];have EG:∀ o g,aY H [] new H1 o g=(aY [] [] new H1 o g).map fun x=>(x.1+H.length,x.2):=by
     intro o g;unfold aY;split
     .have:=xA new o 0 H.length;rw[ayg]at this;simp[this,Option.map_map,Function.comp_def]
     .rfl
    have hτ:∀ t∈tags u++au (new.map (aP H1)),bW (xs++[⟨[],[]⟩]) t=bW (ys++[⟨[],[]⟩]) t:=fun t ht=>by
     rw[hz t ht];unfold bW;rw[(hk t ht).1];rfl
    refine⟨?_,?_⟩
    .rw [<- h2,<- rJ EG u];exact fV u (fun _ _ _=>rfl) fun t ht=>hτ t (ayW _ ht)
    .rw [<- h3];congr 1;simp only[lI,ay1];refine ayC fun o ho=>?_;simp only[Function.comp];cases hob:aP H1 o with
     | none=>rfl
     | some ob=>
      have hmem:some (aQ (aY [] [] new H1) (bW (ys++[⟨[],[]⟩])) 0 ob)∈N:=by rw[<- h3];exact ayd.2 ⟨o,ho,by rw[hob];rfl⟩
      obtain⟨c1,c2⟩:=Gg hcN hmem;simp only[aQ]at c1 c2;have e1:=rJ (τ:=bW (ys++[⟨[],[]⟩])) EG ob.p;simp only[dL]at e1;have e2:ren (aY H [] new H1) (bW (xs++[⟨[],[]⟩])) ob.p=ren (aY H [] new H1) (bW (ys++[⟨[],[]⟩])) ob.p:=by refine fV ob.p (fun _ _ _=>rfl) fun t ht=>?_;have:bW (ys++[⟨[],[]⟩]) t=0:=c2 _ (by rw[jV];exact ayd.2 ⟨t,ht,rfl⟩);rw[this,kz t this]
      simp only[axM,aQ,axH];rw[<- e1,e2,kz _ c1,c1]
   .cases h1
 .cases h1
def AP(C:Ctx)(S:Nat->List AV->Option (AV×Heap)):Cf:=fun f args H=>
 match aH C f H 0 args with
 | some (as,_)=>if(aC as).isEmpty then match S f as with
  | some (v,N)=>if(xB v&&rZ N)=true then some (dL H.length v,H++lI H.length N)else none
  | none=>none
  else none
 | none=>none
def xC{S:Nat->List AV->Option (AV×Heap)}(hS:∀ f as v N,S f as=some (v,N)->Ev1 C f as [] (v,N)):Below C (AP C S):=by
 intro f args H r h;unfold AP at h;split at h
 .rename_i as xs hl;split at h
  .rename_i hi;split at h
   .rename_i v N hs;split at h
    .rename_i hc;simp only[ax4]at hc;rw[<- axN h];exact Ev1.adF (hS f as v N hs) hl (azG.1 hi) hc.1 hc.2
    .cases h
   .cases h
  .cases h
 .cases h
def ahQ(L:List Row1)(f:Nat)(as:List AV):Option (AV×Heap):=(L.find? fun e=>e.f==f&&eqL e.args as).map fun e=>(e.res,e.N)
def rowT(C:Ctx)(L:List Row1):Cf:=fun f args H=>if(L.any fun e=>e.f==f)then AP C (ahQ L) f args H else none
def Gh{L:List Row1}(h:lJ C L):Below C (rowT C L):=by
 intro f args H r hr;unfold rowT at hr;split at hr
 .refine xC (fun f as v N hs=>?_) f args H r hr;unfold ahQ at hs;obtain⟨e,he,h1⟩:=ax7.1 hs;simp only[axJ]at h1;obtain⟨rfl,rfl⟩:=h1;have h3:=List.find?_some he;simp only[ax4,beq_iff_eq]at h3;rw[<- h3.1,<- zM _ _ h3.2];exact(h e (List.mem_of_find?_eq_some he)).1
 .cases hr
end
def jT(id:Nat)(o:Out):Out:=match o.ex with
 | .exit i=>if i=id then⟨.normal,o.fr,o.H⟩else o
 | _=>o
section
variable {C:Ctx}{T:Cf}{f m:Nat}{fr:Frame}{H:Heap}{out:Out}
def Run.block'{id:Nat}{c:Code}{o:Out}(h:Run C T f m c fr H o):Run C T f m (.block id c) fr H (jT id o):=by
 obtain⟨ex,fr',H'⟩:=o;cases ex with
 | normal=>exact Run.block h (fun e=>by cases e)
 | ret=>exact Run.block h (fun e=>by cases e)
 | exit i=>
  by_cases hi:i=id
  .subst hi;simp only[jT,if_true];exact Run.iM h
  .simp only[jT,hi,if_false];exact Run.block h (by simpa using hi)
def Run.seq'{a b:Code}{o:Out}(h:Run C T f m a fr H o)(h1:∀ fr' H',o=⟨.normal,fr',H'⟩->Run C T f m b fr' H' out)(h2:o.ex≠.normal->o=out):Run C T f m (.seq a b) fr H out:=by
 obtain⟨ex,fr',H'⟩:=o;cases ex with
 | normal=>exact Run.seq h (h1 fr' H' rfl)
 | ret=>have:=h2 (by simp);subst this;exact Run.bK h (by simp)
 | exit i=>have:=h2 (by simp);subst this;exact Run.bK h (by simp)
end
attribute [go_sem] exec mG AQ lq step gu aJ fA iJ aB jU jk ak tY jv tZ dF Gi kD aS uX kR lenV Iq unV arith KJ AU mM live upd KL UQ MV Ir retag xE qP rE nX bY dJ tags ids scalar aV wI faV fvV AL AO
def Qd{k:IntKind}(hk:k.signed=false){n:Int}(h0:0<=n)(h1:n<2 ^ k.bits):k.wrap n=n:=by
 simp only[IntKind.wrap,hk,azb,axZ,if_false];exact azj h0 h1
def wrap_u8{n:Int}(h0:0<=n)(h1:n<256):IntKind.u8.wrap n=n:=Qd rfl h0 (by exact h1)
def wrap_u32{n:Int}(h0:0<=n)(h1:n<4294967296):IntKind.u32.wrap n=n:=Qd rfl h0 (by exact h1)
def wrap_u64{n:Int}(h0:0<=n)(h1:n<18446744073709551616):IntKind.u64.wrap n=n:=Qd rfl h0 (by exact h1)
def wrap_i64{n:Int}(h0:-9223372036854775808<=n)(h1:n<9223372036854775808):IntKind.i64.wrap n=n:=by
 have e1:IntKind.i64.bits=64:=rfl;have e2:IntKind.i64.signed=true:=rfl;simp only[IntKind.wrap,e1,e2,azh,decide_eq_true_eq];have p64:(2:Int) ^ 64=18446744073709551616:=rfl;have p63:(2:Int) ^ (64-1)=9223372036854775808:=rfl;rw[p64,p63];by_cases hn:0<=n
 .rw [azj hn (by omega),if_neg (by omega)]
 .have:n%18446744073709551616=n+18446744073709551616:=by omega
  rw[this,if_pos (by omega)];omega
end Go.AM
namespace Go.AM
open Go.ChangeShapes Go.WideShapes Go.ChangeAt Go.RowKit
section
variable {H:Type}{enc:TypeId×Value->H}{P:Program}{W:World}
def Gj{b t:Nat}(hb:b<W.heap.size)(ht:t≠0):NT (start W) (T0 W.heap.size) t b:=⟨.inr ht,yF W b,hb⟩
def ahR{n:Int}(h:(Lit.int .u8 n).wf=true):0<=n/\n<256:=by
 have:IntKind.u8.min<=n/\n<=IntKind.u8.max:=by simpa[Lit.wf]using h
 have e1:IntKind.u8.min=0:=rfl;have e2:IntKind.u8.max=255:=rfl;omega
def Yt{c:Nat}{l:List UInt8}{ad:Option Addr}{cap:Nat}(hs:AX c l.length ad cap)
 (hc:∀ a,ad=some a->l.length≠0->a.spot=none/\a.block<W.heap.size/\∀ j b,l[j]?=some b->W.cell? ⟨a.block,a.off+j,none⟩=some (.int .u8 (b.toNat:Int))) :
 aF (start W) (T0 W.heap.size) (.ro c (.pb l) 1) (.slice ad l.length cap):=by
 simp only[aF,aK,aU,RV];refine⟨ad,cap,rfl,hs,fun a ha hn=>?_⟩;obtain⟨h1,h2,h3⟩:=hc a ha hn;exact⟨h1,Gj h2 (by omega),by simp only[RP];exact h3⟩
def Yu{c:Nat}{k:IntKind}{l:List Int}{ad:Option Addr}{cap:Nat}(hs:AX c l.length ad cap)
 (hc:∀ a,ad=some a->l.length≠0->a.spot=none/\a.block<W.heap.size/\∀ j b,l[j]?=some b->W.cell? ⟨a.block,a.off+j,none⟩=some (.int k b)) :
 aF (start W) (T0 W.heap.size) (.ro c (.pi k l) 1) (.slice ad l.length cap):=by
 simp only[aF,aK,aU,RV];refine⟨ad,cap,rfl,hs,fun a ha hn=>?_⟩;obtain⟨h1,h2,h3⟩:=hc a ha hn;exact⟨h1,Gj h2 (by omega),by simp only[RP];exact h3⟩
def Yv{base:Nat}{t e:TypeId}{k:IntKind}{v:Value}{d:DataW H}{ps:List MemPlace}(ht:P.underlying t=some (.slice e))(he:P.underlying e=some (.int k))(hc:P.cellsOf e=1)
 (hval:Value.okWide P W .any base t v)(hd:DataW.Trod enc P W 0 (fun _=>true) true t v d ps) :
 ∃ (c:Nat) (l:List Int),l.length<=maxLen/\(∀ x∈l,(Lit.int k x).wf=true)/\aF (start W) (T0 W.heap.size) (.ro c (.pi k l) 1) v:=by
 obtain⟨a0,len0,cap0,rfl⟩:=okWide_slice ht hval;obtain⟨fuel,hf⟩:=hd;rcases Go.ChangeShapes.open_ints ht he hc hf with⟨hcs,_⟩|⟨a,len,cap,zs,hcs,_,hlc,hcm,hzl,_,hcell,hwf⟩
 .simp [Value.cells]at hcs;obtain⟨rfl,rfl,rfl⟩:=hcs;exact⟨0,[],by simp,by simp,Yu (l:=[]) ⟨axO _,fun _=>⟨rfl,rfl⟩,fun h=>absurd rfl h,fun h=>by simp at h⟩ (fun a ha=>by cases ha)⟩
 .simp [Value.cells]at hcs;obtain⟨rfl,rfl,rfl⟩:=hcs;simp only[if_true]at hzl;have hlen:(zs.take len0).length=len0:=by simp;omega
  refine⟨2,zs.take len0,by rw[hlen];omega,fun x hx=>hwf x (List.mem_of_mem_take hx),?_⟩;have:=Yu (W:=W) (c:=2) (k:=k) (l:=zs.take len0) (ad:=some a) (cap:=cap0) ⟨by rw[hlen];exact hlc,fun h=>by simp at h,fun _=>rfl,fun h=>by simp at h⟩ (by
   intro a' ha' hn;simp only[axH]at ha';subst ha';rw[hlen]at hn;have h0:=hcell 0 (by omega);have hsp:a.spot=none:=by have:=World.cell?_spot h0;simpa[Addr.add]using this
   obtain⟨b,off,spot⟩:=a;simp only at hsp;subst hsp;refine⟨rfl,?_,fun j x hx=>?_⟩
   .rw [add_plain]at h0;exact block_lt_of_cell h0
   .have hjl:j<len0:=by have:=(axK.1 hx).1;simp at this;omega
    rw[azt hjl]at hx;have:=hcell j (by omega);rw[add_plain]at this;rw[this,axQ,hx,ayv])
  rw[hlen]at this;exact this
def SN{base:Nat}{t:TypeId}{k:IntKind}{v:Value}{d:DataW H}{ps:List MemPlace}(ht:P.underlying t=some (.int k))(hval:Value.okWide P W .any base t v)(hd:DataW.Trod enc P W 0 (fun _=>true) true t v d ps) :
 ∃ n,(Lit.int k n).wf=true/\aF (start W) (T0 W.heap.size) (.int k n) v:=by
 obtain⟨n,rfl,_,_,h⟩:=open_int ht hval hd;exact⟨n,h,by simp[aF,aK,aU,RV]⟩
end
def rt(t:Nat)(p:AV):AV:=ren (fun _ _=>none) (fun _=>t) p
def bk(n t:Nat)(k:Nat):Nat:=if k=n then t else 0
def kV{H:Heap}{o:Nat}{ob:Obj}(ho:H[o]?=some (some ob))(hi:ids ob.p=[]):reach H aA [o] []=[o]:=by
 show reach H (99998+1+1) [o] []=[o];simp[reach,ho,hi]
section
variable {C:Ctx}{f:Nat}{H:Heap}{T:Cf}
def SQ{ρ:Nat->Nat->Option (Nat×Nat)}{τ:Nat->Nat}{p:AV}(h:ids p=[]):ids (ren ρ τ p)=[]:=by
 have h1:ren ρ τ p=ren (fun o g=>some (o,g)) τ p:=fV p (fun o g ho=>by rw[h]at ho;cases ho) (fun _ _=>rfl);rw[h1];exact(su p).trans h
where
 su:(p:AV)->ids (ren (fun o g=>some (o,g)) τ p)=ids p
  | .ptr .. | .sl .. | .map .. | .ro .. | .jl .. | .top | .bool _ | .int .. | .str _ | .gZ | .jS | .iL | .pn | .pb _ | .pi ..=>rfl
  | .agg p=>by simp only[ren,ids];exact su p
  | .tup l=>by simp only[ren,ids];exact mZ l
  | .fn _ l=>by simp only[ren,ids];exact mZ l
  | .pc l=>by simp only[ren,ids];exact mZ l
  | .pr _ l=>by simp only[ren,ids];exact mZ l
  | .pm l=>by simp only[ren,ids];exact mZ l
 mZ:(l:List AV)->aC (bU (fun o g=>some (o,g)) τ l)=aC l
  | []=>rfl
  | a::r=>by simp only[bU,aC];rw[su a,mZ r]
def Ev1.box(hT:Below C T){o g:Nat}{ob ob1:Obj}{xs ys:List AV}{aN:List fB}{fn:Func}{c:Code}{out:Out}{l:List AV}{rest:Heap}{n t:Nat}
 (hF:C.P.funcs[f]?=some fn)(hb:fn.body=some c)(hrw:C.rw f 0=false)(ho:H[o]?=some (some ob))(hg:ob.g=g)(hi:ids ob.p=[])
 (hl:aH C f H 1 xs=some (ys,aN))(hiy:aC ys=[])(hob:aN.all (fun x=>disjoint x.objs [o])=true)(hn:ys.length+2=n)(hng:n<dA)
 (hj:bY (dn ob)=some t)
 (he:Run C T f 1 c (numbered 0 (coerce C (.ptr 0 0 0 0::ys) (aI C f))) [some { ob with p:=rt n ob.p,g:=0,tg:=n }] out)
 (hex:out.ex=.normal\/out.ex=.ret)(hr:aT C out.fr out.H fn.results.toList=some l)
 (hH:out.H=some ob1::rest)(adH:ob1.ids=true)(hi1:ids ob1.p=[])(hv:ids (aG l)=[])
 (hu:∀ k∈tags (aG l)++dn ob1,k=0\/k=n)(ht1:ob1.tg=0\/ob1.tg=n) :
 Ev1 C f (.ptr o 0 0 g::xs) H (ren (fun _ _=>none) (bk n t) (aG l),upd H o (some { ob1 with p:=ren (fun _ _=>none) (bk n t) ob1.p,g:=g+(if ob1.g=0 then 0 else 1),tg:=bk n t ob1.tg })):=by
 have hlive:live H o g=some ob:=by simp[live,ho,hg]
 have hat:aP H o=some ob:=by simp[aP,ho]
 have hl':aH C f H 0 (.ptr o 0 0 g::xs)=some (.ptr o 0 0 g::ys,⟨[],[]⟩::aN):=by simp only[aH,hrw];simp[dY,dS,tags,hl]
 have hre:reach H aA (aC (.ptr o 0 0 g::ys)) []=[o]:=by rw[show aC (.ptr o 0 0 g::ys)=[o]by simp[aC,ids,hiy]];exact kV ho hi
 have hin:bV H [o] o g=some (0,0):=by simp[bV,hlive,idxOf]
 have hlen:=nY hl;have hn0:0<n:=by omega
 refine Ev1.of (out:=out) (l:=l) hT hF hb hl' ?_ ?_ hex hr ?_
 .rw [hre];simp only[azg,ax4,decide_eq_true_eq,axY];exact⟨⟨rfl,hob⟩,by omega⟩
 .rw [hre];have e1:bU (bV H [o]) (fun t=>t) (.ptr o 0 0 g::ys)=.ptr 0 0 0 0::ys:=by simp only[bU,ren,hin];rw[dZ ys hiy (fun _ _=>rfl)]
  have e2:([o].map fun o'=>(aP H o').map (aQ (bV H [o]) (fun _=>(AV.ptr o 0 0 g::ys).length+1) 0))=[some { ob with p:=rt n ob.p,g:=0,tg:=n }]:=by simp only[ax9,aye,hat,axM,aQ,axY];rw[show ys.length+1+1=n by omega];have e:ren (bV H [o]) (fun _=>n) ob.p=rt n ob.p:=fV ob.p (fun o g h=>by rw[hi]at h;cases h) (fun _ _=>rfl);rw[e]
  rw[e1,e2];exact he
 .rw [hre];unfold wrap;have h0:out.H[0]?=some (some ob1):=by rw[hH];rfl
  have FC:aP out.H 0=some ob1:=by simp[aP,h0]
  have adI:reach out.H aA (List.range [o].length++ids (aG l)) []=[0]:=by rw[hv];exact kV h0 hi1
  have hbt:∀ k,k=0\/k=n->dP (⟨[],[]⟩::aN++[⟨[],au ([o].map (aP H))⟩]) k=some (bk n t k):=by
   rintro k (rfl|rfl)
   .unfold dP bk;rw[if_pos rfl,if_neg (by omega)]
   .unfold dP bk;rw[if_neg (by omega),if_pos rfl];rw[ayj,show k-1=(k-2)+1 by omega,axX,axS (by omega),show k-2-aN.length=0 by omega];simp[au,hat,hj]
  have hgo:∀ k,k=0\/k=n->dN (⟨[],[]⟩::aN++[⟨[],au ([o].map (aP H))⟩]) k=[]:=by
   rintro k (rfl|rfl)
   .rfl
   .unfold dN;rw[if_neg (by omega)];rw[ayj,show k-1=(k-2)+1 by omega,axX,axS (by omega),show k-2-aN.length=0 by omega];rfl
  generalize (⟨[],[]⟩::aN++[⟨[],au ([o].map (aP H))⟩]:List fB)=L at *;have hbT:∀ k,k=0\/k=n->bW L k=bk n t k:=fun k hk=>by unfold bW;rw[hbt k hk];rfl
  simp only[adI];rw[show([0].filter fun o'=>decide ([o].length<=o'))=[] from rfl];have hus:(tags (aG l)++au ((List.range [o].length).map (aP out.H))++au (([]:List Nat).map (aP out.H)))=tags (aG l)++dn ob1:=by simp[au,FC,List.range_succ]
  rw[hus];rw[if_pos (ax5.2 fun k hk=>by rw[hbt k (hu k hk)];rfl)];rw[show(tags (aG l)++dn ob1).flatMap (dN L)=[] from ay6.2 fun k hk=>hgo k (hu k hk)];simp only[ayt,strike,aye,ax1,bP,FC,axM,axH,axJ];refine⟨fV _ (fun o g h=>by rw[hv]at h;cases h) (fun k hk=>hbT k (hu k (ayW _ hk))),?_⟩;have hgb:dK H [o] 0 ob1.g=g+(if ob1.g=0 then 0 else 1):=by simp[dK,hat,hg]
  rw[hgb];congr 2;simp only[aQ];rw[hbT _ ht1];congr 1;refine fV _ (fun o g h=>by rw[hi1]at h;cases h) fun k hk=>?_;unfold dn at hu;rw[if_pos adH]at hu;exact hbT k (hu k (ay2 _ hk))
end
end Go.AM
namespace Go.AM
open Classical in
noncomputable def evT (C:Ctx):Cf:=fun f xs H=>if h:∃ r,Ev1 C f xs H r then some (Classical.choose h)else none
def Ev1.one{C:Ctx}{f:Nat}{xs:List AV}{H:Heap}{r r2:AV×Heap}(h:Ev1 C f xs H r)(h2:Ev1 C f xs H r2):r=r2:=by
 obtain⟨n,h⟩:=h;obtain⟨n2,h2⟩:=h2;have e:=h (max n n2) (by omega);rw[h2 (max n n2) (by omega)]at e;exact(axN e).symm
def bC(C:Ctx):Below C (evT C):=by
 intro f xs H r h;unfold evT at h;split at h
 .rename_i hx;rw[<- axN h];exact Classical.choose_spec hx
 .cases h
def dI{C:Ctx}{f:Nat}{xs:List AV}{H:Heap}{r:AV×Heap}(h:Ev1 C f xs H r):evT C f xs H=some r:=by
 have hx:∃ r,Ev1 C f xs H r:=⟨r,h⟩;unfold evT;rw[dif_pos hx];exact congrArg some (Ev1.one (Classical.choose_spec hx) h)
section
variable {C:Ctx}{f:Nat}{H:Heap}
def UR{aN:List fB}{v:AV}{H1:Heap}{o g:Nat}{ob:Obj}(hi:ids v=[o])(ht:tags v=[])(hl:live H1 o g=some ob)(hob:ob.ids=false)(hp:ids ob.p=[])(hp2:tags ob.p=[])(hto:dn ob=[0])(htg:ob.tg=0) :
 wrap H [] aN v H1=some (ren (fun o' g'=>if o'=o/\g'=g then some (H.length,0)else none) (fun t=>t) v,H++[some (fresh ob)]):=by
 obtain⟨h1,h2⟩:=cZ.1 hl;unfold wrap;have hat:aP H1 o=some ob:=by simp[aP,h1]
 have hρ:ren (aY H [] [o] H1) (bW aN) v=ren (fun o' g'=>if o'=o/\g'=g then some (H.length,0)else none) (fun t=>t) v:=by
  have key:∀ o' g',o'∈ids v->aY H [] [o] H1 o' g'=if o'=o/\g'=g then some (H.length,0)else none:=by
   intro o' g' hm;rw[hi]at hm;simp only[ayb]at hm;subst hm;unfold aY;by_cases hg:g'=g
   .subst hg;rw[hl];simp[idxOf]
   .have:live H1 o' g'=none:=by simp only[live,h1];rw[if_neg (fun e=>hg (e.symm.trans h2))]
    rw[this];simp[hg]
  exact fV v (fun o' g' hm=>key o' g' hm) (by simp[ht])
 simp only[ax3,ay4,ax8,hi,yI h1 hob,ht,au,ax1,aye,hat,hto,ax9,ayF,decide_true,azi,ayt,strike,bP];have h0:dP aN 0=some 0:=rfl;simp only[azg,aAf,h0,aAa,aAe,if_true,azv,azK,dN,ax1,ayt,strike,axM,axH,axJ];refine⟨hρ,?_⟩;have hr:ren (aY H [] [o] H1) (bW aN) ob.p=ob.p:=gX ob.p hp (fun t h=>by rw[hp2]at h;cases h);simp only[aQ,hr,AM.fresh,htg];rfl
variable {T:Cf}
def Ev1.adJ(hT:Below C T){args:List AV}{fn:Func}{c:Code}{as:List AV}{aN:List fB}{out:Out}{l:List AV}{o g:Nat}{ob:Obj}
 (hF:C.P.funcs[f]?=some fn)(hb:fn.body=some c)(hl:aH C f H 0 args=some (as,aN))(hi:aC as=[])(hn:as.length+1<dA)
 (he:Run C T f 0 c (numbered 0 (coerce C as (aI C f))) [] out)(hex:out.ex=.normal\/out.ex=.ret)(hr:aT C out.fr out.H fn.results.toList=some l)
 (hv:ids (aG l)=[o])(ht:tags (aG l)=[])(ho:live out.H o g=some ob)(hob:ob.ids=false)(hp:ids ob.p=[])(hp2:tags ob.p=[])(hto:dn ob=[0])(htg:ob.tg=0) :
 Ev1 C f args H (ren (fun o' g'=>if o'=o/\g'=g then some (H.length,0)else none) (fun t=>t) (aG l),H++[some (AM.fresh ob)]):=by
 refine Ev1.of hT hF hb hl ?_ ?_ hex hr ?_
 .rw [hi,dH];simp only[ax4,decide_eq_true_eq];exact⟨ax5.2 fun x _=>jm x.objs,hn⟩
 .rw [hi,dH,dZ as hi (fun _ _=>rfl)];exact he
 .rw [hi,dH];exact UR hv ht ho hob hp hp2 hto htg
end
structure Holds (p:AV) (ob:Obj):Prop where
 p:ob.p=p
 g:ob.g=0
 row:ob.row=true
 ids:ob.ids=false
 tg:ob.tg=0
def Ev1.tried{C:Ctx}{T:Cf}(hT:Below C T){n f:Nat}{args:List AV}{v:AV}{N:Heap}(h:F8 C T n ⟨f,args,v,N⟩=true)(H:Heap):Ev1 C f args H (dL H.length v,H++lI H.length N):=by
 have:=lJ.cons hT lJ.nil h;obtain⟨h1,h2⟩:=this _ (ayb.2 rfl);exact Ev1.frame h1 h2 H
def Ev1.adK{C:Ctx}{T:Cf}(hT:Below C T){n f:Nat}{args:List AV}{v:AV}(h:F8 C T n ⟨f,args,v,[]⟩=true)(hv:y9 v=true)(H:Heap):Ev1 C f args H (v,H):=by
 have:=Ev1.tried hT h H;rw[show dL H.length v=v from gX v (MS hv).1 (fun _ _=>rfl)]at this;simpa[lI]using this
def Ev1.each{C:Ctx}{T:Cf}(hT:Below C T){n f N:Nat}{a v:Nat->AV}(h:(List.range N).all (fun k=>F8 C T n ⟨f,[a k],v k,[]⟩)=true)(hv:∀ k,y9 (v k)=true){k:Nat}(hk:k<N)(H:Heap):Ev1 C f [a k] H (v k,H) :=
 Ev1.adK hT (ax5.1 h k (ayh.2 hk)) (hv k) H
def CO(H:Heap)(x:Option Obj):(H++[x])[List.length H]?=some x:=by simp
def yB(H:Heap)(x y:Option Obj):(H++[x]).set (List.length H) y=H++[y]:=by simp
def aj(Q:Out->Prop)(C:Ctx)(T:Cf)(f m:Nat)(c:Code)(fr:Frame)(H:Heap):Prop:=∃ o,Q o/\Run C T f m c fr H o
def Goes(P:Frame->Heap->Prop)(o:Out):Prop:=o.ex=.normal/\P o.fr o.H
def Exits(id:Nat)(P:Frame->Heap->Prop)(o:Out):Prop:=o.ex=.exit id/\P o.fr o.H
def lG(P:Frame->Heap->Prop)(o:Out):Prop:=o.ex=.ret/\P o.fr o.H
section
variable {Q:Out->Prop}{C:Ctx}{T:Cf}{f m:Nat}{fr:Frame}{H:Heap}
def aj.of{c:Code}{o:Out}(h:Run C T f m c fr H o)(hq:Q o):aj Q C T f m c fr H:=⟨o,hq,h⟩
def aj.seq{a b:Code}{fr':Frame}{H':Heap}(h:Run C T f m a fr H ⟨.normal,fr',H'⟩)(h':aj Q C T f m b fr' H'):aj Q C T f m (.seq a b) fr H:=by
 obtain⟨o,hq,ho⟩:=h';exact⟨o,hq,Run.seq h ho⟩
def aj.andThen{a b:Code}{P:Frame->Heap->Prop}(h:aj (Goes P) C T f m a fr H)(h':∀ fr' H',P fr' H'->aj Q C T f m b fr' H'):aj Q C T f m (.seq a b) fr H:=by
 obtain⟨⟨ex,fr1,H1⟩,⟨he,hp⟩,ho⟩:=h;simp only at he hp;subst he;exact aj.seq ho (h' _ _ hp)
def aj.block{id:Nat}{c:Code}{P:Frame->Heap->Prop}(h:aj (Exits id P) C T f m c fr H):aj (Goes P) C T f m (.block id c) fr H:=by
 obtain⟨⟨ex,fr1,H1⟩,⟨he,hp⟩,ho⟩:=h;simp only at he hp;subst he;exact⟨_,⟨rfl,hp⟩,Run.iM ho⟩
def aj.assoc{a b c:Code}(h:aj Q C T f m (.seq a (.seq b c)) fr H):aj Q C T f m (.seq (.seq a b) c) fr H:=by
 obtain⟨o,hq,k,hk⟩:=h;refine⟨o,hq,k,?_⟩;simp only[exec]at hk ⊢;rw[<- hk];cases ha:exec C T f m k a fr H with
 | none=>rfl
 | some r=>
  obtain⟨ex,fr',H'⟩:=r;cases ex with
  | normal=>rfl
  | exit id=>rfl
  | ret=>rfl
def aj.I5{id:Nat}{c b:Code}{P:Frame->Heap->Prop}(h:aj (fun o=>Exits id P o\/(o.ex=.ret/\Q o)) C T f m c fr H)(h':∀ fr' H',P fr' H'->aj Q C T f m b fr' H'):aj Q C T f m (.seq (.block id c) b) fr H:=by
 obtain⟨⟨ex,fr1,H1⟩,hq,ho⟩:=h;rcases hq with⟨he,hp⟩|⟨he,hq⟩
 .simp only at he hp;subst he;exact aj.seq (Run.iM ho) (h' _ _ hp)
 .simp only at he;subst he;exact⟨_,hq,Run.bK (Run.block ho (by simp)) (by simp)⟩
def aj.loop{c:Code}{σ:Type}(I:σ->Prop)(fr:σ->Frame)(H:σ->Heap)(μ:σ->Nat)
 (step:∀ s,I s->(∃ s',I s'/\Run C T f m c (fr s) (H s) ⟨.normal,fr s',H s'⟩/\μ s'<μ s)\/(∃ o,Q o/\o.ex≠.normal/\Run C T f m c (fr s) (H s) o))(s:σ)(hs:I s) :
 aj Q C T f m (.loop c) (fr s) (H s):=by
 generalize hn:μ s=n;induction n using Nat.strongRecOn generalizing s with
 | _ n ih=>
  rcases step s hs with⟨s',h0,h1,h3⟩|⟨o,hq,h1,h2⟩
  .obtain ⟨o,hq,ho⟩:=ih (μ s') (by omega) s' h0 rfl;exact⟨o,hq,Run.yG h1 ho⟩
  .exact ⟨o,hq,Run.AB h2 h1⟩
end
def PB(p:AV)(l:List UInt8):Prop:=p=.pb l\/(p=.pn/\l=[])
structure Rw (p:AV) (g:Nat) (ob:Obj):Prop where
 p:ob.p=p
 g:ob.g=g
 row:ob.row=true
 ids:ob.ids=false
 tg:ob.tg=0
def Byt(H:Heap)(a:AV)(l:List UInt8):Prop :=
 ∃ c p,PB p l/\(c=0->l=[])/\∀ t,∃ x,dY H t a=some (.ro c p t,x)
def PB.ah{p:AV}{l:List UInt8}(h:PB p l):ah p=l.length:=by
 rcases h with rfl|⟨rfl,rfl⟩<;>rfl
def PB.ids{p:AV}{l:List UInt8}(h:PB p l):ids p=[]:=by
 rcases h with rfl|⟨rfl,rfl⟩<;>rfl
def Byt.ro{H:Heap}{c t:Nat}{p:AV}{l:List UInt8}(h:PB p l)(hc:c=0->l=[]):Byt H (.ro c p t) l :=
 ⟨c,p,h,hc,fun _=>⟨⟨[],[t]⟩,rfl⟩⟩
def Byt.nil{H:Heap}:Byt H (.ro 0 .pn 0) []:=Byt.ro (.inr ⟨rfl,rfl⟩) (fun _=>rfl)
def Byt.sl{H:Heap}{o off len g:Nat}{ob:Obj}{m l:List UInt8}(ho:H[o]?=some (some ob))(h:Rw (.pb m) g ob)(hl:(m.drop off).take len=l)(hle:off+len<=m.length):Byt H (.sl o off len g) l:=by
 have hlive:live H o g=some ob:=by simp[live,ho,h.g]
 refine⟨if ob.z=0/\AM.ah ob.p=0 then 0 else 2,.pb l,.inl rfl,fun h0=>?_,fun t=>⟨⟨[o],[ob.tg]⟩,?_⟩⟩
 .split at h0
  .rename_i hz;have hm:m.length=0:=by have:=hz.2;rw[h.p]at this;exact this
   have:m=[]:=ayk hm;subst this;rw[<- hl];simp
  .cases h0
 .simp only[dY,dS,hlive,h.ids,h.p,gq];rw[if_pos hle,hl];rfl
def Byt.whole{H:Heap}{o g:Nat}{ob:Obj}{l:List UInt8}(ho:H[o]?=some (some ob))(h:Rw (.pb l) g ob):Byt H (.sl o 0 l.length g) l :=
 Byt.sl ho h (by simp) (by omega)
section
variable {C:Ctx}{f:Nat}{H:Heap}
def sD{i:Nat}{a:AV}{l:List UInt8}{r as:List AV}{xs:List fB}(hrw:C.rw f i=false)(h:Byt H a l)(hr:aH C f H (i+1) r=some (as,xs)) :
 ∃ c p x,PB p l/\(c=0->l=[])/\aH C f H i (a::r)=some (.ro c p (i+1)::as,x::xs):=by
 obtain⟨c,p,hp,hc,hl⟩:=h;obtain⟨x,hx⟩:=hl (i+1);exact⟨c,p,x,hp,hc,by simp only[aH,hrw,hx,hr]⟩
def Dc{T e:Nat}(hT:und C T=.slice e)(he:und C e=.int .u8)(hs:sizeT C e=1)(hb:bH C e=1)(hz:bM C e=true){o g:Nat}{ob:Obj}{l m:List UInt8}{src:AV}
 (ho:H[o]?=some (some ob))(h:Rw (.pb l) g ob)(hsrc:gJ H src=some (.pb m,0)\/(gJ H src=some (.pn,0)/\m=[]))(hn:l.length+m.length<=100000000) :
 ∃ ob',Rw (.pb (l++m)) (g+1) ob'/\bG C H T (.sl o 0 l.length g) src=some (.sl o 0 (l.length+m.length) (g+1),upd H o (some ob')):=by
 have hlive:live H o g=some ob:=by simp[live,ho,h.g]
 have hroom:dQ C e (l.length+m.length)=true:=by simp[dQ,hb];omega
 obtain⟨p,hp1,hp2⟩:∃ p,gJ H src=some (p,0)/\PB p m:=by
  rcases hsrc with h1|⟨h1,h2⟩
  .exact ⟨_,h1,.inl rfl⟩
  .exact ⟨_,h1,.inr ⟨rfl,h2⟩⟩
 have hpl:=hp2.ah;have hpa:l9 (.pb l) p=some (.pb (l++m)):=by
  rcases hp2 with rfl|⟨rfl,rfl⟩
  .rfl
  .simp [l9]
 refine⟨{ ob with p:=.pb (l++m),g:=g+1,cap:=(match ob.cap with|some c=>if 0+l.length+AM.ah p<=c then some (c-0)else none|none=>none),z:=(if AM.ah ob.p=0 then ob.z else 1),tg:=0 },⟨rfl,rfl,h.row,h.ids,rfl⟩,?_⟩;unfold bG;simp only[hT,hs,hz,hp1,hlive,h.row,h.ids,h.p,h.tg];simp only[show ¬ ((1:Nat)=0\/true=false)by simp,if_false];have hc:True/\True/\0+l.length=AM.ah (.pb l)/\aS (.pb l)=1/\dQ C e (l.length+AM.ah p)=true:=⟨trivial,trivial,by simp[AM.ah],rfl,by rw[hpl];exact hroom⟩;rw[if_pos hc];simp only[gq,ayg,axO,if_true,ayZ,ayM,hpa,dJ,aS];simp[hpl];rfl
end
section
variable {C:Ctx}{f:Nat}{H:Heap}{T:Cf}
def iK{l:List AV}(h:dB l=true):ids (aG l)=aC l:=by
 unfold aG;split
 .simp [aC]
 .rw [if_pos h];rfl
def gV{l:List AV}(h:dB l=true):tags (aG l)=aW l:=by
 unfold aG;split
 .simp [aW]
 .rw [if_pos h];rfl
def sF{ρ:Nat->Nat->Option (Nat×Nat)}{τ:Nat->Nat}{v w:AV}{rest:List AV}(hv:ren ρ τ v=w)(hr:bU ρ τ rest=rest)(h:dB (v::rest)=true)(h2:dB (w::rest)=true):ren ρ τ (aG (v::rest))=aG (w::rest):=by
 cases rest with
 | nil=>exact hv
 | cons a r=>
  show ren ρ τ (if dB (v::a::r)then .tup (v::a::r)else .top)=(if dB (w::a::r)then .tup (w::a::r)else .top);rw[if_pos h,if_pos h2];show AV.tup (ren ρ τ v::bU ρ τ (a::r))=_;rw[hv,hr]
def Ev1.Kz(hT:Below C T){args xs:List AV}{aN:List fB}{fn:Func}{c:Code}{n:Nat}{l:List UInt8}{rest:List AV}
 (hF:C.P.funcs[f]?=some fn)(hb:fn.body=some c)(hl:aH C f H 0 args=some (xs,aN))(hi:aC xs=[])(hn:xs.length+1<dA)(hri:aC rest=[])(hrt:aW rest=[])(hnt:dB rest=true)
 (h:aj (lG fun fr H1=>∃ o g ob,aT C fr H1 fn.results.toList=some (.sl o 0 n g::rest)/\H1[o]?=some (some ob)/\Rw (.pb l) g ob) C T f 0 c (numbered 0 (coerce C xs (aI C f))) []) :
 ∃ ob',Rw (.pb l) 0 ob'/\Ev1 C f args H (aG (.sl H.length 0 n 0::rest),H++[some ob']):=by
 obtain⟨⟨ex,fr,H1⟩,⟨he,o,g,ob,hr,ho,hw⟩,hrun⟩:=h;simp only at he hr ho;subst he;refine⟨AM.fresh ob,⟨hw.p,rfl,hw.row,hw.ids,rfl⟩,?_⟩;have:=Ev1.fresh (H:=H) hT hF hb hl hi hn hrun (.inr rfl) hr (o:=o) (g:=g) (ob:=ob) (by rw[iK (l:=.sl o 0 n g::rest) hnt];simp[aC,ids,hri]) (by rw[gV (l:=.sl o 0 n g::rest) hnt];simp[aW,tags,hrt]) (by simp[live,ho,hw.g]) hw.ids (by rw[hw.p];rfl) hw.tg;rw[sF (w:=.sl H.length 0 n 0) (by simp[ren]) (dZ rest hri (fun t ht=>rfl)) (by exact hnt) (by exact hnt)]at this;exact this
def Ev1.rU(hT:Below C T){args xs:List AV}{aN:List fB}{fn:Func}{c:Code}{l:List AV}
 (hF:C.P.funcs[f]?=some fn)(hb:fn.body=some c)(hl:aH C f H 0 args=some (xs,aN))(hi:aC xs=[])(hn:xs.length+1<dA)(hri:aC l=[])(hrt:aW l=[])(hnt:dB l=true)
 (h:aj (lG fun fr H1=>aT C fr H1 fn.results.toList=some l) C T f 0 c (numbered 0 (coerce C xs (aI C f))) []):Ev1 C f args H (aG l,H):=by
 obtain⟨⟨ex,fr,H1⟩,⟨he,hr⟩,hrun⟩:=h;simp only at he hr;subst he;exact Ev1.plain hT hF hb hl hi hn hrun (.inr rfl) hr (by rw[iK hnt];exact hri) (by rw[gV hnt];exact hrt)
end
section
variable {C:Ctx}{T:Cf}{f m:Nat}{fr fr' fr2:Frame}{H H':Heap}{ms:List Mark}
def Run.dy{id:Nat}{ops:Array Oper}{l:List Nat}(hdy:C.dy f id=true)(hk:C.keep f id=some l)(hn:C.norm f id=false)
 (h:jX C T (fF C f) ops ops.toList fr H=some (fr',H',ms))(hm:yJ (Region.before ops) ms=true)(hf:dF l fr'=fr2):Run C T f m (.region id ops true) fr H ⟨.normal,fr2,H'⟩:=by
 refine⟨0,?_⟩;simp only[exec,hdy,azh,Bool.true_or,if_true,h,hm,jk,hk,hn,hf];rfl
end
section
variable {C:Ctx}{f:Nat}{H:Heap}{T:Cf}
end
end Go.AM
namespace Go.AM
open Go.ChangeShapes Go.WideShapes Go.ChangeAt Go.RowKit
section
variable {H:Type}{enc:TypeId×Value->H}{P:Program}{W:World}
end
end Go.AM
namespace Go.AM
open Go.ChangeShapes Go.WideShapes Go.ChangeAt Go.RowKit
section
variable {H:Type}{enc:TypeId×Value->H}{P:Program}{W:World}
def Qh{t e:TypeId}{n:Nat}{u:Value}{x:DataW H×List MemPlace}(ht:P.underlying t=some (.slice e))(he:P.underlying e=some (.int .u8))(hc:P.cellsOf e=1)
 (hf:DataW.trod enc P W 0 (fun _=>true) true n t [u]=some x) :
 ∃ (c:Nat) (l:List UInt8),(c=0->l=[])/\l.length<=maxLen/\u.oneCell'=true/\aU (start W) (T0 W.heap.size) (.ro c (.pb l) 1) u:=by
 rcases Go.ChangeShapes.open_ints ht he hc hf with⟨hcs,_⟩|⟨a,len0,cap0,zs,hcs,_,hlc,hcm,hzl,_,hcell,hwf⟩
 .obtain rfl:=(List.cons.inj hcs).1;exact⟨0,[],fun _=>rfl,by simp,rfl,Yt (l:=[]) ⟨axO _,fun _=>⟨rfl,rfl⟩,fun h=>absurd rfl h,fun h=>by simp at h⟩ (fun a ha=>by cases ha)⟩
 .obtain rfl:=(List.cons.inj hcs).1;simp only[if_true]at hzl;have hlen:((zs.take len0).map fun n=>UInt8.ofNat n.toNat).length=len0:=by simp;omega
  refine⟨2,((zs.take len0).map fun n=>UInt8.ofNat n.toNat),(fun h=>by cases h),by rw[hlen];omega,rfl,?_⟩;have:=Yt (W:=W) (c:=2) (l:=(zs.take len0).map fun n=>UInt8.ofNat n.toNat) (ad:=some a) (cap:=cap0) ⟨by rw[hlen];exact hlc,fun h=>by simp at h,fun _=>rfl,fun h=>by simp at h⟩ (by
   intro a' ha' hn;simp only[axH]at ha';subst ha';rw[hlen]at hn;have h0:=hcell 0 (by omega);have hsp:a.spot=none:=by have:=World.cell?_spot h0;simpa[Addr.add]using this
   obtain⟨b,off,spot⟩:=a;simp only at hsp;subst hsp;refine⟨rfl,?_,fun j x hx=>?_⟩
   .rw [add_plain]at h0;exact block_lt_of_cell h0
   .rw [axP]at hx;cases hz:(zs.take len0)[j]? with
    | none=>rw[hz]at hx;cases hx
    | some z=>
     rw[hz]at hx;simp only[axM,axH]at hx;have hjl:j<len0:=by have:=(axK.1 hz).1;simp at this;omega
     rw[azt hjl]at hz;have ahU:=axT hz;obtain⟨q1,q2⟩:=ahR (hwf z ahU);have:=hcell j (by omega);rw[add_plain]at this;rw[this,axQ,hz,ayv,<- hx];have:((UInt8.ofNat z.toNat).toNat:Int)=z:=by rw[ayU,ayN (by simp;omega)];omega
     rw[this])
  rw[hlen]at this;exact this
end
section
variable {C:Ctx}{f:Nat}{H:Heap}{T:Cf}
def Byt.part{o off len g:Nat}{ob:Obj}{m l:List UInt8}(ho:H[o]?=some (some ob))(hg:ob.g=g)(hp:ob.p=.pb m)(hi:ob.ids=false)(hl:(m.drop off).take len=l)(hle:off+len<=m.length):Byt H (.sl o off len g) l:=by
 have hlive:live H o g=some ob:=by simp[live,ho,hg]
 refine⟨if ob.z=0/\AM.ah ob.p=0 then 0 else 2,.pb l,.inl rfl,fun h0=>?_,fun t=>⟨⟨[o],[ob.tg]⟩,?_⟩⟩
 .split at h0
  .rename_i hz;have hm:m.length=0:=by have:=hz.2;rw[hp]at this;exact this
   have:m=[]:=ayk hm;subst this;rw[<- hl];simp
  .cases h0
 .simp only[dY,dS,hlive,hi,hp,gq];rw[if_pos hle,hl];rfl
end
section
variable {C:Ctx}{f:Nat}{H:Heap}{T:Cf}
structure RwT (p:AV) (g t:Nat) (ob:Obj):Prop where
 p:ob.p=p
 g:ob.g=g
 row:ob.row=true
 ids:ob.ids=false
 tg:ob.tg=t
def Aj{T e:Nat}(hT:und C T=.slice e)(he:und C e=.int .u8)(hs:sizeT C e=1)(hb:bH C e=1)(hz:bM C e=true){o g t:Nat}{ob:Obj}{l m:List UInt8}{src:AV}
 (ho:H[o]?=some (some ob))(h:RwT (.pb l) g t ob)(hsrc:gJ H src=some (.pb m,0)\/(gJ H src=some (.pn,0)/\m=[]))(hn:l.length+m.length<=100000000) :
 ∃ ob',RwT (.pb (l++m)) (g+1) t ob'/\bG C H T (.sl o 0 l.length g) src=some (.sl o 0 (l.length+m.length) (g+1),upd H o (some ob')):=by
 have hlive:live H o g=some ob:=by simp[live,ho,h.g]
 have hroom:dQ C e (l.length+m.length)=true:=by simp[dQ,hb];omega
 obtain⟨p,hp1,hp2⟩:∃ p,gJ H src=some (p,0)/\PB p m:=by
  rcases hsrc with h1|⟨h1,h2⟩
  .exact ⟨_,h1,.inl rfl⟩
  .exact ⟨_,h1,.inr ⟨rfl,h2⟩⟩
 have hpl:=hp2.ah;have hpa:l9 (.pb l) p=some (.pb (l++m)):=by
  rcases hp2 with rfl|⟨rfl,rfl⟩
  .rfl
  .simp [l9]
 have hj:dJ t 0=some t:=by
  unfold dJ;by_cases h0:t=0
  .rw [if_pos h0,h0]
  .rw [if_neg h0,if_pos (.inl rfl)]
 refine⟨{ ob with p:=.pb (l++m),g:=g+1,cap:=(match ob.cap with|some c=>if 0+l.length+AM.ah p<=c then some (c-0)else none|none=>none),z:=(if AM.ah ob.p=0 then ob.z else 1),tg:=t },⟨rfl,rfl,h.row,h.ids,rfl⟩,?_⟩;unfold bG;simp only[hT,hs,hz,hp1,hlive,h.row,h.ids,h.p,h.tg];simp only[show ¬ ((1:Nat)=0\/true=false)by simp,if_false];have hc:True/\True/\0+l.length=AM.ah (.pb l)/\aS (.pb l)=1/\dQ C e (l.length+AM.ah p)=true:=⟨trivial,trivial,by simp[AM.ah],rfl,by rw[hpl];exact hroom⟩;rw[if_pos hc];simp only[gq,ayg,axO,if_true,ayZ,ayM,hpa,hj,aS];simp[hpl];rfl
def RwT.rw{p:AV}{g:Nat}{ob:Obj}(h:RwT p g 0 ob):Rw p g ob:=⟨h.p,h.g,h.row,h.ids,h.tg⟩
end
section
variable {Q Q':Out->Prop}{C:Ctx}{T:Cf}{f m:Nat}{fr:Frame}{H:Heap}
def aj.mono{c:Code}(h:aj Q C T f m c fr H)(hq:∀ o,Q o->Q' o):aj Q' C T f m c fr H:=by
 obtain⟨o,h1,h2⟩:=h;exact⟨o,hq o h1,h2⟩
def aj.jP{c:Code}(I:Nat->Frame->Heap->Prop)
 (step:∀ k fr H,I k fr H->aj (fun o=>(o.ex=.normal/\∃ k',k'<k/\I k' o.fr o.H)\/(o.ex≠.normal/\Q o)) C T f m c fr H){k:Nat}(h:I k fr H) :
 aj Q C T f m (.loop c) fr H:=by
 induction k using Nat.strongRecOn generalizing fr H with
 | _ k ih=>
  obtain⟨⟨ex,fr1,H1⟩,hq,hr⟩:=step k fr H h;rcases hq with⟨he,k',hk,hi⟩|⟨he,hq⟩
  .simp only at he hi;subst he;obtain⟨o,hq,ho⟩:=ih k' hk hi;exact⟨o,hq,Run.yG hr ho⟩
  .exact ⟨_,hq,Run.AB hr he⟩
def aj.zx{a b:Code}(h:aj Q C T f m a fr H)(hq:∀ o,Q o->o.ex≠.normal):aj Q C T f m (.seq a b) fr H:=by
 obtain⟨o,h1,h2⟩:=h;exact⟨o,h1,Run.bK h2 (hq o h1)⟩
def aj.blk{id:Nat}{c:Code}(h:aj Q C T f m c fr H)(hq:∀ o,Q o->o.ex≠.exit id):aj Q C T f m (.block id c) fr H:=by
 obtain⟨o,h1,h2⟩:=h;exact⟨o,h1,Run.block h2 (hq o h1)⟩
def Or2(P:Frame->Heap->Prop)(Q:Out->Prop)(o:Out):Prop:=(o.ex=.normal/\P o.fr o.H)\/(o.ex≠.normal/\Q o)
def aj.or{a b:Code}{P:Frame->Heap->Prop}(h:aj (Or2 P Q) C T f m a fr H)(h':∀ fr' H',P fr' H'->aj Q C T f m b fr' H'):aj Q C T f m (.seq a b) fr H:=by
 obtain⟨⟨ex,fr1,H1⟩,hq,hr⟩:=h;rcases hq with⟨he,hp⟩|⟨he,hq⟩
 .simp only at he hp;subst he;exact aj.seq hr (h' _ _ hp)
 .exact ⟨_,hq,Run.bK hr he⟩
def aj.goes{c:Code}{P:Frame->Heap->Prop}(h:aj (Goes P) C T f m c fr H):aj (Or2 P Q) C T f m c fr H:=h.mono fun _ h=>.inl h
def aj.y5{c:Operand}{a b:Code}(hc:aJ C fr c=.bool true)(h:aj Q C T f m a fr H):aj Q C T f m (.cond c a b) fr H:=by
 obtain⟨o,hq,ho⟩:=h;exact⟨o,hq,Run.cond (d:=true) hc ho⟩
def aj.ahV{c:Operand}{a b:Code}(hc:aJ C fr c=.bool false)(h:aj Q C T f m b fr H):aj Q C T f m (.cond c a b) fr H:=by
 obtain⟨o,hq,ho⟩:=h;exact⟨o,hq,Run.cond (d:=false) hc ho⟩
def aj.AY{id:Nat}{c:Code}{P:Frame->Heap->Prop}(h:aj (fun o=>Exits id P o\/(o.ex=.ret/\Q o)) C T f m c fr H):aj (Or2 P Q) C T f m (.block id c) fr H:=by
 obtain⟨⟨ex,fr1,H1⟩,hq,hr⟩:=h;rcases hq with⟨he,hp⟩|⟨he,hq⟩
 .simp only at he hp;subst he;exact⟨_,.inl ⟨rfl,hp⟩,Run.iM hr⟩
 .simp only at he;subst he;exact⟨_,.inr ⟨by simp,hq⟩,Run.block hr (by simp)⟩
end
def ay:List Nat->Code->Option Code
 | [],c=>some c
 | 0::r,.seq a _=>ay r a
 | _::r,.seq _ b=>ay r b
 | 0::r,.cond _ a _=>ay r a
 | _::r,.cond _ _ b=>ay r b
 | _::r,.block _ c=>ay r c
 | _::r,.loop c=>ay r c
 | _,_=>none
def piece{O:Option Code}{P:Code->Prop}(h:∃ code,O=some code/\P code)(code':Code)(h':O=some code'):P code':=by
 obtain⟨c,h1,h2⟩:=h;rw[h']at h1;exact(axN h1) ▸ h2
def orB(y:UInt8)(j:Nat):UInt8:=UInt8.ofNat (y.toNat||| 2 ^ j)
def UU{y:UInt8}{j:Nat}(hj:j<8):(orB y j).toNat=y.toNat||| 2 ^ j:=by
 unfold orB;have h1:=y.toNat_lt;have h2:2 ^ j<2 ^ 8:=Nat.pow_lt_pow_right (by omega) hj;have h3:y.toNat||| 2 ^ j<2 ^ 8:=aAd h1 h2;rw[ayU,ayN h3]
def or_bit{y:UInt8}{j:Nat}(hj:j<8):IntKind.u8.wrap ((bits .u8 (y.toNat:Int)||| bits .u8 ((2 ^ j:Nat):Int)).toNat:Nat)=((orB y j).toNat:Nat):=by
 have h1:=y.toNat_lt;have h2:2 ^ j<2 ^ 8:=Nat.pow_lt_pow_right (by omega) hj;have h3:y.toNat||| 2 ^ j<2 ^ 8:=aAd h1 h2;have hb:∀ v:Nat,v<256->(bits .u8 (v:Int)).toNat=v:=by intro v hv;unfold bits;simp[IntKind.bits];omega
 rw[UU hj,show(bits .u8 (y.toNat:Int)||| bits .u8 ((2 ^ j:Nat):Int)).toNat=(bits .u8 (y.toNat:Int)).toNat||| (bits .u8 ((2 ^ j:Nat):Int)).toNat by simp];rw[hb _ h1,hb _ h2];unfold IntKind.wrap;simp[IntKind.signed,IntKind.bits];omega
end Go.AM
namespace Go.AM
open Go.ChangeShapes Go.WideShapes Go.ChangeAt Go.RowKit
inductive Leaf where
 | b
 | i (k:IntKind)
 | s
def adL:TypeDesc->Option Leaf
 | .bool=>some .b
 | .int k=>some (.i k)
 | .string=>some .s
 | _=>none
def Fb:Leaf->AV->Value->Prop
 | .b,a,u=>∃ b,a=.bool b/\u=.bool b
 | .i k,a,u=>∃ n,a=.int k n/\u=.int k n/\(Lit.int k n).wf=true
 | .s,a,u=>∃ s:List UInt8,a=.str s/\u=.string ⟨⟨s⟩⟩/\s.length<=maxLen
inductive Cells:List Leaf->List AV->List Value->Prop
 | nil:Cells [] [] []
 | cons {k a u ks as us}:Fb k a u->Cells ks as us->Cells (k::ks) (a::as) (u::us)
def Cells.append{ks ks' as as' us us'}(h:Cells ks as us)(h':Cells ks' as' us'):Cells (ks++ks') (as++as') (us++us'):=by
 induction h with
 | nil=>exact h'
 | cons h1 _ ih=>exact .cons h1 ih
def Cells.len{ks as us}(h:Cells ks as us):as.length=ks.length/\us.length=ks.length:=by
 induction h with
 | nil=>exact⟨rfl,rfl⟩
 | cons h1 _ ih=>simp[ih.1,ih.2]
def Fb.rel{k a u}{W:World}(h:Fb k a u):u.oneCell'=true/\∀ N,RV W N a u:=by
 cases k with
 | b=>obtain⟨b,rfl,rfl⟩:=h;exact⟨rfl,fun N=>by simp[RV]⟩
 | i k=>obtain⟨n,rfl,rfl,_⟩:=h;exact⟨rfl,fun N=>by simp[RV]⟩
 | s=>obtain⟨s,rfl,rfl,_⟩:=h;exact⟨rfl,fun N=>by simp[RV]⟩
def Cells.at{ks as us}(h:Cells ks as us):∀ (j:Nat) (a:AV),as[j]?=some a->∃ k u,us[j]?=some u/\Fb k a u:=by
 induction h with
 | nil=>intro j a h;simp at h
 | cons h1 _ ih=>
  intro j a h;cases j with
  | zero=>simp at h;subst h;exact⟨_,_,rfl,h1⟩
  | succ j=>simp at h;simpa using ih j a h
section
variable (P:Program)
def SS(L:TypeId->Option (List Leaf)):Nat->List Field->Option (List Leaf)
 | _,[]=>some []
 | o,f::r=>if f.offset=o then
  match L f.type with
  | some a=>if a.length=P.cellsOf f.type then
   match SS L (o+a.length) r with
   | some b=>some (a++b)
   | none=>none
   else none
  | none=>none
  else none
def leaves:Nat->TypeId->Option (List Leaf)
 | 0,_=>none
 | n+1,t=>match P.underlying t with
  | some (.struct fs)=>match SS P (leaves n) 0 fs.toList with
   | some L=>if L.length=P.cellsOf t then some L else none
   | none=>none
  | some d=>(adL d).map fun k=>[k]
  | none=>none
end
section
variable {H:Type}{enc:TypeId×Value->H}{P:Program}{W:World}{base:Nat}{sp:Nat->Bool}{held:Bool}
inductive MW {H:Type}:DataW H->List UInt8->Prop
 | lit (s:List UInt8):MW (.lit (.string s)) s
 | agg {d:DataW H} {l:List (DataW H)} {s:List UInt8}:d∈l->MW d s->MW (.agg l) s
 | elem {d:DataW H} {l r:List (DataW H)} {s:List UInt8}:d∈l->MW d s->MW (.slice l r) s
end
section
variable {C:Ctx}{T:Cf}{f:Nat}{H:Heap}
end
section
variable {C:Ctx}{T:Cf}{f:Nat}{H:Heap}
def AZ(t:Nat):bY [t]=some t:=by
 simp[bY,dJ];omega
end
section
variable {C:Ctx}{f:Nat}{H:Heap}{T:Cf}
def Gl{T e es:Nat}(hT:und C T=.slice e)(hs:sizeT C e=es)(hes:es≠0)(hb:bH C e<=4096)(hz:bM C e=true){o g:Nat}{ob:Obj}{l m:List AV}{src:AV}
 (ho:H[o]?=some (some ob))(h:Rw (.pr es l) g ob)(hsrc:gJ H src=some (.pr es m,0))(hn:l.length+m.length<=100000000) :
 ∃ ob',Rw (.pr es (l++m)) (g+1) ob'/\bG C H T (.sl o 0 l.length g) src=some (.sl o 0 (l.length+m.length) (g+1),upd H o (some ob')):=by
 have hlive:live H o g=some ob:=by simp[live,ho,h.g]
 have hroom:dQ C e (l.length+m.length)=true:=by unfold dQ;have:(l.length+m.length)*bH C e<=100000000*4096:=Nat.mul_le_mul hn hb;exact decide_eq_true ⟨by omega,by omega⟩
 refine⟨{ ob with p:=.pr es (l++m),g:=g+1,cap:=(match ob.cap with|some c=>if 0+l.length+AM.ah (.pr es m)<=c then some (c-0)else none|none=>none),z:=(if AM.ah ob.p=0 then ob.z else 1),tg:=0 },⟨rfl,rfl,h.row,h.ids,rfl⟩,?_⟩;unfold bG;simp only[hT,hs,hz,hsrc,hlive,h.row,h.ids,h.p,h.tg];rw[if_neg (by simp[hes])];have hc:True/\True/\0+l.length=AM.ah (.pr es l)/\aS (.pr es l)=es/\dQ C e (l.length+AM.ah (.pr es m))=true:=⟨trivial,trivial,by simp[AM.ah],rfl,by simpa[AM.ah]using hroom⟩;rw[if_pos hc];simp only[gq,ayg,axO,if_true,ayZ,ayM,l9,dJ,aS];simp[AM.ah];rfl
def Ev1.newR(hT:Below C T){args xs:List AV}{aN:List fB}{fn:Func}{c:Code}{n es:Nat}{l rest:List AV}
 (hF:C.P.funcs[f]?=some fn)(hb:fn.body=some c)(hl:aH C f H 0 args=some (xs,aN))(hi:aC xs=[])(hn:xs.length+1<dA)(hri:aC rest=[])(hrt:aW rest=[])(hnt:dB rest=true)(hpi:aC l=[])(hpt:aW l=[])
 (h:aj (lG fun fr H1=>∃ o g ob,aT C fr H1 fn.results.toList=some (.sl o 0 n g::rest)/\H1[o]?=some (some ob)/\Rw (.pr es l) g ob) C T f 0 c (numbered 0 (coerce C xs (aI C f))) []) :
 ∃ ob',Rw (.pr es l) 0 ob'/\Ev1 C f args H (aG (.sl H.length 0 n 0::rest),H++[some ob']):=by
 obtain⟨⟨ex,fr,H1⟩,⟨he,o,g,ob,hr,ho,hw⟩,hrun⟩:=h;simp only at he hr ho;subst he;refine⟨AM.fresh ob,⟨hw.p,rfl,hw.row,hw.ids,rfl⟩,?_⟩;have:=Ev1.adJ (H:=H) hT hF hb hl hi hn hrun (.inr rfl) hr (o:=o) (g:=g) (ob:=ob) (by rw[iK (l:=.sl o 0 n g::rest) hnt];simp[aC,ids,hri]) (by rw[gV (l:=.sl o 0 n g::rest) hnt];simp[aW,tags,hrt]) (by simp[live,ho,hw.g]) hw.ids (by rw[hw.p];exact hpi) (by rw[hw.p];exact hpt) (by simp[dn,hw.ids,hw.p,hw.tg]) hw.tg;rw[sF (w:=.sl H.length 0 n 0) (by simp[ren]) (dZ rest hri (fun t ht=>rfl)) (by exact hnt) (by exact hnt)]at this;exact this
def SV(H:Heap)(a:AV)(es:Nat)(l:List AV):Prop :=
 ∃ c p,(p=.pr es l\/(p=.pn/\l=[]))/\(c=0->l=[])/\∀ t,∃ x,dY H t a=some (.ro c p t,x)
def SV.ro{c t es:Nat}{l:List AV}(hc:c=0->l=[]):SV H (.ro c (.pr es l) t) es l :=
 ⟨c,_,.inl rfl,hc,fun _=>⟨⟨[],[t]⟩,rfl⟩⟩
def SV.whole{o g es:Nat}{ob:Obj}{l:List AV}(ho:H[o]?=some (some ob))(h:Rw (.pr es l) g ob):SV H (.sl o 0 l.length g) es l:=by
 have hlive:live H o g=some ob:=by simp[live,ho,h.g]
 refine⟨if ob.z=0/\AM.ah ob.p=0 then 0 else 2,.pr es l,.inl rfl,fun h0=>?_,fun t=>⟨⟨[o],[ob.tg]⟩,?_⟩⟩
 .split at h0
  .rename_i hz;have hm:l.length=0:=by have:=hz.2;rw[h.p]at this;exact this
   exact ayk hm
  .cases h0
 .simp only[dY,dS,hlive,h.ids,h.p,gq];simp
end
def Jh(b:Array Nat)(n:Nat):List (Nat×Nat) :=
 (List.range n).flatMap fun j=>(List.range j).filterMap fun i=>if(b.getD j 0).testBit i then none else some (i,j)
def y7(ms:List Mark)(p:Nat×Nat):Bool:=match ms[p.1]?,ms[p.2]? with|some x,some y=>bear x y|_,_=>false
def kM{b:Array Nat}{ms:List Mark}{ps:List (Nat×Nat)}(h:Jh b ms.length=ps)(h2:ps.all (y7 ms)=true):yJ b ms=true:=by
 unfold yJ;rw[ax5];intro j hj;rw[ax5];intro i hi;cases hb:(b.getD j 0).testBit i with
 | true=>rfl
 | false=>
  rw[Bool.false_or];subst h;have:=ax5.1 h2 (i,j) (by
   unfold Jh;rw[ayX];exact⟨j,hj,List.mem_filterMap.2 ⟨i,hi,by rw[hb];rfl⟩⟩)
  exact this
section
variable {C:Ctx}{f:Nat}{H:Heap}{T:Cf}
def SX(H:Heap)(a:AV)(l:List AV):Prop :=
 ∃ c p,(p=.pc l\/(p=.pn/\l=[]))/\(c=0->l=[])/\∀ t,∃ x,dY H t a=some (.ro c p t,x)
def SX.ro{c t:Nat}{l:List AV}(hc:c=0->l=[]):SX H (.ro c (.pc l) t) l :=
 ⟨c,_,.inl rfl,hc,fun _=>⟨⟨[],[t]⟩,rfl⟩⟩
def SX.whole{o g:Nat}{ob:Obj}{l:List AV}(ho:H[o]?=some (some ob))(h:Rw (.pc l) g ob):SX H (.sl o 0 l.length g) l:=by
 have hlive:live H o g=some ob:=by simp[live,ho,h.g]
 refine⟨if ob.z=0/\AM.ah ob.p=0 then 0 else 2,.pc l,.inl rfl,fun h0=>?_,fun t=>⟨⟨[o],[ob.tg]⟩,?_⟩⟩
 .split at h0
  .rename_i hz;have hm:l.length=0:=by have:=hz.2;rw[h.p]at this;exact this
   exact ayk hm
  .cases h0
 .simp only[dY,dS,hlive,h.ids,h.p,gq];simp
end
section
variable {C:Ctx}{f:Nat}{H:Heap}{T:Cf}
end
section
variable {C:Ctx}{f:Nat}{H:Heap}{T:Cf}
end
def eH{ρ:Nat->Nat->Option (Nat×Nat)}{τ:Nat->Nat}{H:Heap}{π:List Nat}{H1:Heap}:∀ (l:List Nat) (k:Nat) (B:Heap),(bP ρ τ H π H1 k l B).length=B.length
 | [],_,_=>rfl
 | o::r,k,B=>by rw[bP,eH r];simp[upd]
def pF{ρ:Nat->Nat->Option (Nat×Nat)}{τ:Nat->Nat}{H:Heap}{π:List Nat}{H1:Heap}{j:Nat}:∀ (l:List Nat) (k:Nat) (B:Heap),j∉l->(bP ρ τ H π H1 k l B)[j]?=B[j]?
 | [],_,_,_=>rfl
 | o::r,k,B,h=>by
  rw[bP,pF r _ _ (fun h2=>h (aya _ h2))];unfold upd;rw[axU (fun h2=>h (by rw[h2];exact ays ..))]
def kS{ρ:Nat->Nat->Option (Nat×Nat)}{τ:Nat->Nat}{H:Heap}{π:List Nat}{H1:Heap}:∀ (l:List Nat) (k i o:Nat) (B:Heap),l.Nodup->l[i]?=some o->o<B.length ->
 (bP ρ τ H π H1 k l B)[o]?=some ((aP H1 (k+i)).map fun ob=>aQ ρ τ (dK H π (k+i) ob.g) ob)
 | [],_,i,_,_,_,h,_=>by simp at h
 | a::r,k,0,o,B,hn,h,hl=>by
  simp at h;subst h;rw[azl]at hn;rw[bP,pF r _ _ hn.1];unfold upd;rw[ayx hl,ay0]
 | a::r,k,i+1,o,B,hn,h,hl=>by
  rw[azl]at hn;rw[bP,kS r (k+1) i o _ hn.2 (by simpa using h) (by simpa[upd]using hl),show k+1+i=k+(i+1)by omega]
def D8{ρ:Nat->Nat->Option (Nat×Nat)}{τ τ':Nat->Nat}{g:Nat}{ob:Obj}(h1:∀ t∈tags ob.p,τ t=τ' t)(h2:τ ob.tg=τ' ob.tg):aQ ρ τ g ob=aQ ρ τ' g ob:=by
 unfold aQ;rw[h2,fV ob.p (fun _ _ _=>rfl) h1]
def A8{ρ:Nat->Nat->Option (Nat×Nat)}{τ τ':Nat->Nat}{H:Heap}{π:List Nat}{H1:Heap}:∀ (l:List Nat) (k:Nat) (B:Heap),(∀ j,k<=j->j<k+l.length->∀ ob,aP H1 j=some ob->(∀ t∈tags ob.p,τ t=τ' t)/\τ ob.tg=τ' ob.tg) ->
 bP ρ τ H π H1 k l B=bP ρ τ' H π H1 k l B
 | [],_,_,_=>rfl
 | o::r,k,B,h=>by
  rw[bP,bP];have e:((aP H1 k).map fun ob=>aQ ρ τ (dK H π k ob.g) ob)=(aP H1 k).map fun ob=>aQ ρ τ' (dK H π k ob.g) ob:=by
   cases ho:aP H1 k with
   | none=>rfl
   | some ob=>
    obtain⟨h1,h2⟩:=h k (axO _) (by simp) ob ho;simp only[axM];rw[D8 h1 h2]
  rw[e];exact A8 r (k+1) _ fun j h1 h2=>h j (by omega) (by simp only[axY];omega)
section
variable {C:Ctx}{f:Nat}{H:Heap}{T:Cf}
def okTags(n:Nat)(ob:Obj):Prop:=(∀ t∈tags ob.p,t=0\/t=n)/\(ob.tg=0\/ob.tg=n)
def okTags.ob{n:Nat}{ob:Obj}(h:okTags n ob)(hp:∀ l,ob.p≠.pm l):∀ t∈dn ob,t=0\/t=n:=by
 intro t ht;unfold dn at ht;split at ht
 .exact h.1 t ht
 .rcases ax2.1 ht with rfl|ht
  .exact h.2
  .split at ht
   .rename_i l hl;exact absurd hl (hp l)
   .simp at ht
def Ev1.grp(hT:Below C T){o n t:Nat}{π new:List Nat}{xs ys:List AV}{aN:List fB}{fn:Func}{c:Code}{out:Out}{l:List AV}
 (hF:C.P.funcs[f]?=some fn)(hb:fn.body=some c)(hrw:C.rw f 0=false)
 (hπ:reach H aA [o] []=π)(hin:bV H π o 0=some (0,0))
 (hl:aH C f H 1 xs=some (ys,aN))(hiy:aC ys=[])(hob:aN.all (fun x=>disjoint x.objs π)=true)(hn:ys.length+2=n)(hng:n<dA)
 (hj:bY (au (π.map (aP H)))=some t)
 (he:Run C T f π.length c (numbered 0 (coerce C (.ptr 0 0 0 0::ys) (aI C f))) (π.map fun o=>(aP H o).map (aQ (bV H π) (fun _=>n) 0)) out)
 (hex:out.ex=.normal\/out.ex=.ret)(hr:aT C out.fr out.H fn.results.toList=some l)
 (hK:(reach out.H aA (List.range π.length++ids (aG l)) []).filter (fun o=>decide (π.length<=o))=new)
 (hu:∀ k∈tags (aG l),k=0\/k=n)
 (hu2:∀ k,(k<π.length\/k∈new)->∀ ob,aP out.H k=some ob->okTags n ob/\∀ l,ob.p≠.pm l) :
 Ev1 C f (.ptr o 0 0 0::xs) H (ren (aY H π new out.H) (bk n t) (aG l),bP (aY H π new out.H) (bk n t) H π out.H 0 π H++new.map fun o=>(aP out.H o).map (aQ (aY H π new out.H) (bk n t) 0)):=by
 have hl':aH C f H 0 (.ptr o 0 0 0::xs)=some (.ptr o 0 0 0::ys,⟨[],[]⟩::aN):=by simp only[aH,hrw];simp[dY,dS,tags,hl]
 have hre:reach H aA (aC (.ptr o 0 0 0::ys)) []=π:=by rw[show aC (.ptr o 0 0 0::ys)=[o]by simp[aC,ids,hiy]];exact hπ
 have hlen:=nY hl;have hn0:0<n:=by omega
 refine Ev1.of (out:=out) (l:=l) hT hF hb hl' ?_ ?_ hex hr ?_
 .rw [hre];simp only[azg,ax4,decide_eq_true_eq,axY];exact⟨⟨rfl,hob⟩,by omega⟩
 .rw [hre];have e1:bU (bV H π) (fun t=>t) (.ptr o 0 0 0::ys)=.ptr 0 0 0 0::ys:=by simp only[bU,ren,hin];rw[dZ ys hiy (fun _ _=>rfl)]
  rw[e1];rw[show(AV.ptr o 0 0 0::ys).length+1=n by simp only[axY];omega];exact he
 .rw [hre];unfold wrap;have hbt:∀ k,k=0\/k=n->dP (⟨[],[]⟩::aN++[⟨[],au (π.map (aP H))⟩]) k=some (bk n t k):=by
   rintro k (rfl|rfl)
   .unfold dP bk;rw[if_pos rfl,if_neg (by omega)]
   .unfold dP bk;rw[if_neg (by omega),if_pos rfl];rw[ayj,show k-1=(k-2)+1 by omega,axX,axS (by omega),show k-2-aN.length=0 by omega];simp[hj]
  have hgo:∀ k,k=0\/k=n->dN (⟨[],[]⟩::aN++[⟨[],au (π.map (aP H))⟩]) k=[]:=by
   rintro k (rfl|rfl)
   .rfl
   .unfold dN;rw[if_neg (by omega)];rw[ayj,show k-1=(k-2)+1 by omega,axX,axS (by omega),show k-2-aN.length=0 by omega];rfl
  generalize (⟨[],[]⟩::aN++[⟨[],au (π.map (aP H))⟩]:List fB)=L at *;have hbT:∀ k,k=0\/k=n->bW L k=bk n t k:=fun k hk=>by unfold bW;rw[hbt k hk];rfl
  simp only[hK];have htl:∀ (M:List Nat),(∀ k∈M,k<π.length\/k∈new)->∀ x∈au (M.map (aP out.H)),x=0\/x=n:=by
   intro M hM;induction M with
   | nil=>intro x hx;simp[au]at hx
   | cons k M ih=>
    intro x hx;rw[ax9]at hx;cases ho:aP out.H k with
    | none=>
     rw[ho,au]at hx;exact ih (fun j hj=>hM j (aya _ hj)) x hx
    | some ob=>
     rw[ho,au]at hx;rcases axV.1 hx with hx|hx
     .obtain ⟨q1,q2⟩:=hu2 k (hM k (ays ..)) ob ho;exact q1.ob q2 x hx
     .exact ih (fun j hj=>hM j (aya _ hj)) x hx
  have hus:∀ x∈tags (aG l)++au ((List.range π.length).map (aP out.H))++au (new.map (aP out.H)),x=0\/x=n:=by
   intro x hx;rcases axV.1 hx with hx|hx
   .rcases axV.1 hx with hx|hx
    .exact hu x hx
    .exact htl _ (fun k hk=>.inl (ayh.1 hk)) x hx
   .exact htl _ (fun k hk=>.inr hk) x hx
  rw[if_pos (ax5.2 fun k hk=>by rw[hbt k (hus k hk)];rfl)];rw[show(tags (aG l)++au ((List.range π.length).map (aP out.H))++au (new.map (aP out.H))).flatMap (dN L)=[] from ay6.2 fun k hk=>hgo k (hus k hk)];simp only[ayt,strike,axH,axJ];refine⟨fV _ (fun _ _ _=>rfl) (fun k hk=>hbT k (hu k hk)),?_⟩;congr 1
  .refine A8 π 0 H fun j h1 h2 ob ho=>?_;obtain⟨⟨q1,q2⟩,_⟩:=hu2 j (.inl (by omega)) ob ho;exact⟨fun t ht=>hbT t (q1 t ht),hbT _ q2⟩
  .refine ayC fun k hk=>?_;cases ho:aP out.H k with
   | none=>rfl
   | some ob=>
    obtain⟨⟨q1,q2⟩,_⟩:=hu2 k (.inr hk) ob ho;simp only[axM];rw[D8 (fun t ht=>hbT t (q1 t ht)) (hbT _ q2)]
end
section
variable {C:Ctx}{f:Nat}{H:Heap}{T:Cf}
def JY{T e:Nat}(hT:und C T=.slice e)(he:und C e=.int .u8)(hs:sizeT C e=1)(hb:bH C e=1)(hz:bM C e=true){o g t off:Nat}{ob:Obj}{l m:List UInt8}{src:AV}
 (ho:H[o]?=some (some ob))(h:RwT (.pb l) g t ob)(hoff:off<=l.length)(hsrc:gJ H src=some (.pb m,0)\/(gJ H src=some (.pn,0)/\m=[]))(hn:l.length+m.length<=100000000) :
 ∃ ob',RwT (.pb (l.drop off++m)) (g+1) t ob'/\bG C H T (.sl o off (l.drop off).length g) src=some (.sl o 0 ((l.drop off).length+m.length) (g+1),upd H o (some ob')):=by
 have hlive:live H o g=some ob:=by simp[live,ho,h.g]
 have hroom:dQ C e ((l.drop off).length+m.length)=true:=by simp[dQ,hb];omega
 obtain⟨p,hp1,hp2⟩:∃ p,gJ H src=some (p,0)/\PB p m:=by
  rcases hsrc with h1|⟨h1,h2⟩
  .exact ⟨_,h1,.inl rfl⟩
  .exact ⟨_,h1,.inr ⟨rfl,h2⟩⟩
 have hpl:=hp2.ah;have hpa:l9 (.pb (l.drop off)) p=some (.pb (l.drop off++m)):=by
  rcases hp2 with rfl|⟨rfl,rfl⟩
  .rfl
  .simp [l9]
 have hj:dJ t 0=some t:=by
  unfold dJ;by_cases h0:t=0
  .rw [if_pos h0,h0]
  .rw [if_neg h0,if_pos (.inl rfl)]
 have hps:gq (.pb l) off (l.drop off).length=some (.pb (l.drop off)):=by simp only[gq,axW];rw[if_pos (by omega)];congr 2;rw[aym (by simp)]
 refine⟨{ ob with p:=.pb (l.drop off++m),g:=g+1,cap:=(match ob.cap with|some c=>if off+(l.drop off).length+AM.ah p<=c then some (c-off)else none|none=>none),z:=(if AM.ah ob.p=0 then ob.z else 1),tg:=t },⟨rfl,rfl,h.row,h.ids,rfl⟩,?_⟩;unfold bG;simp only[hT,hs,hz,hp1,hlive,h.row,h.ids,h.p,h.tg];simp only[show ¬ ((1:Nat)=0\/true=false)by simp,if_false];have hc:True/\True/\off+(l.drop off).length=AM.ah (.pb l)/\aS (.pb l)=1/\dQ C e ((l.drop off).length+AM.ah p)=true:=⟨trivial,trivial,by simp[AM.ah];omega,rfl,by rw[hpl];exact hroom⟩;rw[if_pos hc];simp only[hps,hpa,hj,aS];simp[hpl];rfl
def Ev1.newP(hT:Below C T){args xs:List AV}{aN:List fB}{fn:Func}{c:Code}{rest:List AV}{ob:Obj}{n:Nat}
 (hF:C.P.funcs[f]?=some fn)(hb:fn.body=some c)(hl:aH C f H 0 args=some (xs,aN))(hi:aC xs=[])(hn:xs.length+1=n)(hng:n<dA)(hri:aC rest=[])(hrt:aW rest=[])(hnt:dB rest=true)
 (hip:ids ob.p=[])(htp:∀ k∈tags ob.p,k=0)(htg:ob.tg=0)(hg:ob.g=0)(hpm:∀ l,ob.p≠.pm l)
 (h:aj (lG fun fr H1=>∃ o,aT C fr H1 fn.results.toList=some (.ptr o 0 0 0::rest)/\H1[o]?=some (some ob)) C T f 0 c (numbered 0 (coerce C xs (aI C f))) []) :
 Ev1 C f args H (aG (.ptr H.length 0 0 0::rest),H++[some ob]):=by
 obtain⟨⟨ex,fr,H1⟩,⟨he,o,hr,ho⟩,hrun⟩:=h;simp only at he hr ho;subst he;have hre:reach H aA (aC xs) []=[]:=by rw[hi,dH]
 refine Ev1.of (out:=⟨.ret,fr,H1⟩) (l:=.ptr o 0 0 0::rest) hT hF hb hl ?_ ?_ (.inr rfl) hr ?_
 .rw [hre];simp only[ax4,decide_eq_true_eq];refine⟨ax5.2 fun x _=>?_,by omega⟩;exact jm x.objs
 .rw [hre];rw[dZ xs hi (fun _ _=>rfl)];exact hrun
 .rw [hre];unfold wrap;have hv:ids (aG (.ptr o 0 0 0::rest))=[o]:=by rw[iK (l:=.ptr o 0 0 0::rest) hnt];simp[aC,ids,hri]
  have hvt:tags (aG (.ptr o 0 0 0::rest))=[]:=by rw[gV (l:=.ptr o 0 0 0::rest) hnt];simp[aW,tags,hrt]
  have hK:reach H1 aA (List.range ([]:List Nat).length++ids (aG (.ptr o 0 0 0::rest))) []=[o]:=by rw[hv];exact kV ho hip
  simp only[hK];rw[show([o].filter fun o'=>decide (([]:List Nat).length<=o'))=[o]by simp];have hat:aP H1 o=some ob:=by simp[aP,ho]
  have hlv:live H1 o 0=some ob:=by simp[live,ho,hg]
  have hus:∀ x∈tags (aG (.ptr o 0 0 0::rest))++au ((List.range ([]:List Nat).length).map (aP H1))++au ([o].map (aP H1)),x=0:=by
   intro x hx;rw[hvt]at hx;simp only[ax3,ay4,aye,au,ax8,ax9,hat,ax1]at hx;unfold dn at hx;split at hx
   .exact htp x hx
   .rcases ax2.1 hx with rfl|hx
    .exact htg
    .split at hx
     .rename_i l hl;exact absurd hl (hpm l)
     .simp at hx
  have hb0:∀ L:List fB,dP L 0=some 0:=fun L=>by unfold dP;rw[if_pos rfl]
  have hT0:∀ L:List fB,bW L 0=0:=fun L=>by unfold bW;rw[hb0];rfl
  rw[if_pos (ax5.2 fun k hk=>by rw[hus k hk,hb0];rfl)];have hfl:(tags (aG (.ptr o 0 0 0::rest))++au ((List.range ([]:List Nat).length).map (aP H1))++au ([o].map (aP H1))).flatMap (dN (aN++[⟨[],au (([]:List Nat).map (aP H))⟩]))=[]:=ay6.2 fun k hk=>by rw[hus k hk];rfl
  rw[hfl];simp only[ayt,strike,bP,ax9,aye,hat,axM,axH,axJ];have EG:aY H [] [o] H1 o 0=some (H.length,0):=by unfold aY;rw[hlv];simp[idxOf]
  refine⟨?_,?_⟩
  .rw [sF (w:=.ptr H.length 0 0 0) (by simp[ren,EG]) (dZ rest hri (fun t ht=>by rw[hrt]at ht;cases ht)) (by exact hnt) (by exact hnt)]
  .congr 2;unfold aQ;rw[htg,hT0,gX ob.p hip (fun t ht=>by rw[htp t ht];exact hT0 _)];cases ob;simp only at htg hg;subst htg hg;rfl
end
end Go.AM
namespace Go.AM
open Go.ChangeShapes Go.WideShapes Go.ChangeAt Go.RowKit
section
variable {H:Type}{enc:TypeId×Value->H}{P:Program}{W:World}
def xG(r:Nat×List UInt8):AV:=.ro r.1 (.pb r.2) 0
def Qi{t e e8:TypeId}{b0:Nat}{v:Value}{d:DataW H}{ps:List MemPlace}(ht:P.underlying t=some (.slice e))(he:P.underlying e=some (.slice e8))(h8:P.underlying e8=some (.int .u8))(hc8:P.cellsOf e8=1)(hc:P.cellsOf e=1)
 (hval:Value.okWide P W .any b0 t v)(hd:DataW.Trod enc P W 0 (fun _=>true) true t v d ps) :
 ∃ (c:Nat) (rows:List (Nat×List UInt8)),(∀ r∈rows,(r.1=0->r.2=[])/\r.2.length<=maxLen)/\(c=0->rows=[])/\rows.length<=maxLen/\aF (start W) (T0 W.heap.size) (.ro c (.pc (rows.map xG)) 1) v:=by
 obtain⟨a0,len0,cap0,rfl⟩:=okWide_slice ht hval;obtain⟨fuel,hf⟩:=hd;rcases DataW.trod_slice ht hf with⟨hcs,_⟩|⟨a,len,cap,elems,rest,m,_,hcs,hxe,hb,hlc,hcm,axp,hel,_⟩
 .simp [Value.cells]at hcs;obtain⟨rfl,rfl,rfl⟩:=hcs;refine⟨0,[],by simp,fun _=>rfl,by simp,?_⟩;simp only[aF,aK,aU,RV];exact⟨none,0,rfl,⟨axO _,fun _=>⟨rfl,rfl⟩,fun h=>absurd rfl h,fun h=>by simp at h⟩,fun a ha=>by cases ha⟩
 .simp [Value.cells]at hcs;obtain⟨rfl,rfl,rfl⟩:=hcs;have each:∀ i:Nat,i<len0->∃ (r:Nat×List UInt8) (u:Value),((r.1=0->r.2=[])/\r.2.length<=maxLen)/\u.oneCell'=true/\aU (start W) (T0 W.heap.size) (.ro r.1 (.pb r.2) 1) u/\W.cell? ((a.add (i*1)).add 0)=some u:=by
   intro i hi;have h:=hel i hi;rw[hc,axI (by omega),Option.bind_eq_some_iff]at h;obtain⟨cs,h1,h2⟩:=h;obtain⟨_,hsz,hcell⟩:=World.cells?_some h1;obtain⟨u,rfl⟩:∃ u,cs=[u]:=by
    match cs,hsz with
    | [u],_=>exact⟨u,rfl⟩
   obtain⟨c,l,q1,q2,q3,q4⟩:=Qh he h8 hc8 h2;exact⟨(c,l),u,⟨q1,q2⟩,q3,q4,by rw[hcell 0 (by omega)];rfl⟩
  have ahW:∀ i:Nat,∃ r:Nat×List UInt8,i<len0->∃ u:Value,((r.1=0->r.2=[])/\r.2.length<=maxLen)/\u.oneCell'=true/\aU (start W) (T0 W.heap.size) (.ro r.1 (.pb r.2) 1) u/\W.cell? ((a.add (i*1)).add 0)=some u:=by
   intro i;by_cases hi:i<len0
   .obtain ⟨r,u,h⟩:=each i hi;exact⟨r,fun _=>⟨u,h⟩⟩
   .exact ⟨(0,[]),fun h=>absurd h hi⟩
  obtain⟨f,hfe⟩:=Classical.axiomOfChoice ahW;have hlen:((List.range len0).map f).length=len0:=by simp
  refine⟨2,(List.range len0).map f,?_,(fun h=>by cases h),by rw[hlen];omega,?_⟩
  .intro r hr;obtain⟨i,hi,rfl⟩:=ayd.1 hr;obtain⟨u,h,_⟩:=hfe i (ayh.1 hi);exact h
  .simp only[aF,aK,aU,RV];have hpl:ah (.pc (((List.range len0).map f).map xG))=len0:=by simp[ah]
   rw[hpl];refine⟨some a,cap0,rfl,⟨hlc,fun h=>by simp at h,fun _=>rfl,fun h=>by simp at h⟩,fun a' ha' hn=>?_⟩;obtain rfl:=axN ha';obtain⟨u0,_,_,_,h0⟩:=hfe 0 (by omega);have hsp:a.spot=none:=by have:=World.cell?_spot h0;simpa[Addr.add]using this
   obtain⟨b,off,spot⟩:=a;simp only at hsp;subst hsp;refine⟨rfl,?_,?_⟩
   .rw [add_plain,add_plain]at h0;exact Gj (block_lt_of_cell h0) (by omega)
   .rw [SY];intro j x hx;rw[ay1,axP]at hx;cases hj:(List.range len0)[j]? with
    | none=>rw[hj]at hx;cases hx
    | some i=>
     rw[hj]at hx;simp only[axM,axH,Function.comp]at hx;subst hx;obtain⟨hi1,hi2⟩:=axK.1 hj;simp at hi1 hi2;subst hi2;obtain⟨u,_,h1,h2,h3⟩:=hfe j hi1;rw[add_plain,add_plain]at h3;refine⟨u,by rw[<- h3];simp only[ayQ,ay0];rfl,h1,?_⟩;simp only[aU]at h2;unfold xG;rw[RV]at h2 ⊢;exact h2
end
def MX{k:Nat}:∀ {new:List Nat},k∈new->∃ i,new[i]?=some k/\∀ j,idxOf new k j=some (j+i)
 | a::r,h=>by
  by_cases e:a=k
  .subst e;exact⟨0,rfl,fun j=>by simp[idxOf]⟩
  .have hk:k∈r:=by
    rcases ax2.1 h with h|h
    .exact absurd h.symm e
    .exact h
   obtain⟨i,h1,h2⟩:=MX hk;refine⟨i+1,by simpa using h1,fun j=>?_⟩;unfold idxOf;rw[if_neg e,h2];congr 1;omega
def At(H:Heap)(π new:List Nat)(k o':Nat):Prop:=(k<π.length/\π[k]?=some o')\/(π.length<=k/\∃ i,new[i]?=some k/\o'=H.length+i)
def At.inj{H:Heap}{π new:List Nat}{k k2 o o2:Nat}(hn:π.Nodup)(hlt:∀ x∈π,x<H.length)(h:At H π new k o)(h2:At H π new k2 o2)(hne:k≠k2):o≠o2:=by
 rcases h with⟨h1,h3⟩|⟨h1,i,h3,rfl⟩<;>rcases h2 with⟨g1,g3⟩|⟨g1,j,g3,rfl⟩
 .intro e;subst e;rw[axI h1]at h3;rw[axI g1]at g3;have:=(azn hn (h₀:=h1) (h₁:=g1)).1 ((axN h3).trans (axN g3).symm);exact hne this
 .have:=hlt o (axT h3);omega
 .have:=hlt o2 (axT g3);omega
 .intro e;have:i=j:=by omega
  subst this;rw[h3]at g3;exact hne (axN g3)
def Gm{H E:Heap}{π new:List Nat}{τ:Nat->Nat}(hn:π.Nodup)(hlt:∀ x∈π,x<H.length){k:Nat}{ob:Obj}(hk:aP E k=some ob)(hm:k<π.length\/(π.length<=k/\k∈new)) :
 ∃ o' g',aY H π new E k ob.g=some (o',g')/\(bP (aY H π new E) τ H π E 0 π H++new.map fun o=>(aP E o).map (aQ (aY H π new E) τ 0))[o']?=some (some (aQ (aY H π new E) τ g' ob))/\At H π new k o'/\(k<π.length->g'=dK H π k ob.g):=by
 have hl:live E k ob.g=some ob:=by
  unfold aP at hk;unfold live;cases h:E[k]? with
  | none=>rw[h]at hk;simp at hk
  | some x=>
   cases x with
   | none=>rw[h]at hk;simp at hk
   | some y=>
    rw[h]at hk;simp at hk;subst hk;simp
 rcases hm with hm|⟨hm,hmem⟩
 .obtain ⟨o',ho'⟩:∃ o',π[k]?=some o':=⟨_,axI hm⟩;have hol:=hlt o' (axT ho');refine⟨o',dK H π k ob.g,?_,?_,.inl ⟨hm,ho'⟩,fun _=>rfl⟩
  .unfold aY;rw[hl];simp only;rw[if_pos hm,ho'];rfl
  .rw [axL (by rw[eH];exact hol)];have:=kS (ρ:=aY H π new E) (τ:=τ) (H:=H) (π:=π) (H1:=E) π 0 k o' H hn ho' hol;rw[this,ayg,hk];rfl
 .obtain ⟨i,hi,hj⟩:=MX hmem;refine⟨H.length+i,0,?_,?_,.inr ⟨hm,i,hi,rfl⟩,fun h=>by omega⟩
  .unfold aY;rw[hl];simp only;rw[if_neg (by omega),hj];rfl
  .rw [axS (by rw[eH];omega),eH,Nat.add_sub_cancel_left,axP,hi];simp[hk]
def MZ{H E:Heap}{π new:List Nat}{τ:Nat->Nat}{ρ:Nat->Nat->Option (Nat×Nat)}{j:Nat}(hj:j<H.length)(hjp:j∉π):(bP ρ τ H π E 0 π H++new.map fun o=>(aP E o).map (aQ ρ τ 0))[j]?=H[j]?:=by
 rw[axL (by rw[eH];exact hj),pF _ _ _ hjp]
end Go.AM
namespace Go.AM
open Go
section
variable {C:Ctx}{H:Heap}{f:Nat}{T:Cf}
def Yw{aN:List fB}{v:AV}{H1:Heap}{o g bo:Nat}{ob:Obj}(hi:ids v=[o])(ht:tags v=[])(hl:live H1 o g=some ob)(hob:ob.ids=false)(hp:ids ob.p=[])(hpm:∀ l,ob.p≠.pm l)(htg:ob.tg=1)(hpt:tags ob.p≠[])(h0:aN[0]?=some ⟨[bo],[0]⟩) :
 wrap H [] aN v H1=some (ren (fun o' g'=>if o'=o/\g'=g then some (H.length,0)else none) (fun t=>t) v,upd H bo none++[some { ob with p:=ren (fun _ _=>none) (bW aN) ob.p,g:=0,tg:=0 }]):=by
 obtain⟨h1,h2⟩:=cZ.1 hl;unfold wrap;have hat:aP H1 o=some ob:=by simp[aP,h1]
 have hρ:ren (aY H [] [o] H1) (bW aN) v=ren (fun o' g'=>if o'=o/\g'=g then some (H.length,0)else none) (fun t=>t) v:=by
  have key:∀ o' g',o'∈ids v->aY H [] [o] H1 o' g'=if o'=o/\g'=g then some (H.length,0)else none:=by
   intro o' g' hm;rw[hi]at hm;simp only[ayb]at hm;subst hm;unfold aY;by_cases hg:g'=g
   .subst hg;rw[hl];simp[idxOf]
   .have:live H1 o' g'=none:=by simp only[live,h1];rw[if_neg (fun e=>hg (e.symm.trans h2))]
    rw[this];simp[hg]
  exact fV v (fun o' g' hm=>key o' g' hm) (by simp[ht])
 have hto:dn ob=[1]:=by unfold dn;rw[hob,htg];cases hq:ob.p<;>first|rfl|exact absurd hq (hpm _)
 have hb1:dP aN 1=some 0:=by unfold dP;simp[h0,bY,dJ]
 have hB1:bW aN 1=0:=by unfold bW;rw[hb1];rfl
 have hg1:dN aN 1=[bo]:=by unfold dN;simp[h0]
 have htN:uf v=[]:=azu.2 fun t h=>by have:=Df h;rw[ht]at this;cases this
 have adM:lu ob=[1]:=by unfold lu;rw[if_neg (by simp[hob,hpt]),hto]
 simp only[ax3,ay4,ax8,hi,yI h1 hob,ht,au,dD,htN,adM,ax1,aye,hat,hto,ax9,ayF,decide_true,azi,ayt,strike,bP];simp only[azg,aAf,hb1,aAa,aAe,if_true,azv,azK,hg1,ax1,ayt,List.contains_cons,beq_self_eq_true,Bool.true_or,azi,strike,axM,axH,axJ];refine⟨hρ,?_⟩;have hr:ren (aY H [] [o] H1) (bW aN) ob.p=ren (fun _ _=>none) (bW aN) ob.p:=fV ob.p (fun o g h=>by rw[hp]at h;cases h) (fun _ _=>rfl);simp only[aQ,hr,htg,hB1]
def Ev1.adN(hT:Below C T){args xs:List AV}{aN:List fB}{fn:Func}{c:Code}{n bo:Nat}{P:List AV->Prop}{rest:List AV}
 (hF:C.P.funcs[f]?=some fn)(hb:fn.body=some c)(hl:aH C f H 0 args=some (xs,aN))(h0:aN[0]?=some ⟨[bo],[0]⟩)(hi:aC xs=[])(hn:xs.length+1<dA)(hri:aC rest=[])(hrt:aW rest=[])(hnt:dB rest=true)
 (hP:∀ l,P l->aC l=[])(hPt:∀ l,P l->aW l≠[])(hPr:∀ l τ,P l->P (bU (fun _ _=>none) τ l))
 (h:aj (lG fun fr H1=>∃ o g ob l,P l/\aT C fr H1 fn.results.toList=some (.sl o 0 n g::rest)/\H1[o]?=some (some ob)/\ob.p=.pc l/\ob.g=g/\ob.row=true/\ob.ids=false/\ob.tg=1) C T f 0 c (numbered 0 (coerce C xs (aI C f))) []) :
 ∃ ob' l,P l/\Rw (.pc l) 0 ob'/\Ev1 C f args H (aG (.sl H.length 0 n 0::rest),upd H bo none++[some ob']):=by
 obtain⟨⟨ex,fr,H1⟩,⟨he,o,g,ob,l,hPl,hr,ho,hp,hg,hrow,jQ,htg⟩,hrun⟩:=h;simp only at he hr ho;subst he;have hre:ren (fun _ _=>none) (bW (aN++[⟨[],au (([]:List Nat).map (aP H))⟩])) ob.p=.pc (bU (fun _ _=>none) (bW (aN++[⟨[],au (([]:List Nat).map (aP H))⟩])) l):=by rw[hp];simp[ren]
 refine⟨{ ob with p:=ren (fun _ _=>none) (bW (aN++[⟨[],au (([]:List Nat).map (aP H))⟩])) ob.p,g:=0,tg:=0 },bU (fun _ _=>none) (bW (aN++[⟨[],au (([]:List Nat).map (aP H))⟩])) l,hPr _ _ hPl,⟨hre,rfl,hrow,jQ,rfl⟩,?_⟩;refine Ev1.of (out:=⟨.ret,fr,H1⟩) (l:=.sl o 0 n g::rest) hT hF hb hl ?_ ?_ (.inr rfl) hr ?_
 .rw [hi,dH];simp only[ax4,decide_eq_true_eq];exact⟨ax5.2 fun x _=>jm x.objs,hn⟩
 .rw [hi,dH,dZ xs hi (fun _ _=>rfl)];exact hrun
 .rw [hi,dH];have h0':(aN++[⟨[],au (([]:List Nat).map (aP H))⟩])[0]?=some ⟨[bo],[0]⟩:=by
   cases aN with
   | nil=>cases h0
   | cons x r=>exact h0
  rw[Yw (o:=o) (g:=g) (ob:=ob) (by rw[iK (l:=.sl o 0 n g::rest) hnt];simp[aC,ids,hri]) (by rw[gV (l:=.sl o 0 n g::rest) hnt];simp[aW,tags,hrt]) (by simp[live,ho,hg]) jQ (by rw[hp];exact hP l hPl) (by rw[hp];simp) htg (by rw[hp];exact hPt l hPl) h0'];rw[sF (w:=.sl H.length 0 n 0) (by simp[ren]) (dZ rest hri (fun t ht=>rfl)) (by exact hnt) (by exact hnt)]
end
end Go.AM
