/- The abstract machine, part 2: a deterministic evaluator for the program's code and the proof that what it tells is so. Conditions: none beyond the theorems' own. -/
import Derived.Calls
import Derived.Orders
import Derived.Test.YtbodincpjijdiaaAm1
set_option linter.defProp false
set_option linter.unusedSimpArgs false
set_option linter.unusedVariables false
set_option maxRecDepth 100000
set_option maxHeartbeats 8000000
namespace Go.AM
def jc(ρ:Nat->Nat->Option (Nat×Nat))(τ:Nat->Nat):∀ l,bU ρ τ l=l.map (ren ρ τ)
 | []=>rfl
 | a::r=>by simp[bU,jc ρ τ r]
def oC(ρ:Nat->Nat->Option (Nat×Nat))(τ:Nat->Nat)(l:List AV):(bU ρ τ l).length=l.length:=by simp[jc]
def ND(ρ:Nat->Nat->Option (Nat×Nat))(τ:Nat->Nat)(p:AV):ah (ren ρ τ p)=ah p:=by
 cases p
 case ptr o i f g=>simp only[ren];rcases ρ o g with _|⟨a,b⟩<;>rfl
 case sl o i f g=>simp only[ren];rcases ρ o g with _|⟨a,b⟩<;>rfl
 case map o g=>simp only[ren];rcases ρ o g with _|⟨a,b⟩<;>rfl
 all_goals simp only[ren,ah,oC]
def NG(ρ:Nat->Nat->Option (Nat×Nat))(τ:Nat->Nat)(p:AV):aS (ren ρ τ p)=aS p:=by
 cases p
 case ptr o i f g=>simp only[ren];rcases ρ o g with _|⟨a,b⟩<;>rfl
 case sl o i f g=>simp only[ren];rcases ρ o g with _|⟨a,b⟩<;>rfl
 case map o g=>simp only[ren];rcases ρ o g with _|⟨a,b⟩<;>rfl
 all_goals simp only[ren,aS]
def NH(ρ:Nat->Nat->Option (Nat×Nat))(τ:Nat->Nat)(p:AV):ig (ren ρ τ p)=ig p:=by
 cases p
 case ptr o i f g=>simp only[ren];rcases ρ o g with _|⟨a,b⟩<;>rfl
 case sl o i f g=>simp only[ren];rcases ρ o g with _|⟨a,b⟩<;>rfl
 case map o g=>simp only[ren];rcases ρ o g with _|⟨a,b⟩<;>rfl
 all_goals simp only[ren,ig]
structure Ren (ρ:Nat->Nat->Option (Nat×Nat)) (τ:Nat->Nat) (K K':Kx) (T T':Nat->Nat->Prop) (ok:Nat->Prop):Prop where
 w:K'.w=K.w
 h:∀ o g o' g',ρ o g=some (o',g')->o'<K'.H.length/\∃ ob,live K.H o g=some ob/\∀ ob',K'.H[o']?=some (some ob')->g'<=ob'.g/\(ob'.g=g'->K'.μ o'=K.μ o/\Same ob ob')
 t:∀ t,ok t->∀ b,NT K T t b->NT K' T' (τ t) b
section
variable {ρ:Nat->Nat->Option (Nat×Nat)}{τ:Nat->Nat}{K K':Kx}{T T':Nat->Nat->Prop}{ok:Nat->Prop}
mutual
def Qz{w:World}{N:Nat->Prop}(ρ:Nat->Nat->Option (Nat×Nat))(τ:Nat->Nat):(a:AV)->(v:Value)->RV w N a v->RV w N (ren ρ τ a) v
 | .top,_,_=>trivial
 | .bool _,v,hv=>by simpa[ren,RV]using hv
 | .int _ _,v,hv=>by simpa[ren,RV]using hv
 | .str _,v,hv=>by simpa[ren,RV]using hv
 | .gZ,v,hv=>by simpa[ren,RV]using hv
 | .jS,v,hv=>by simpa[ren,RV]using hv
 | .iL,v,hv=>by simpa[ren,RV]using hv
 | .ro c p t,v,hv=>by simpa[ren,RV]using hv
 | .ptr ..,v,hv=>by simp[RV]at hv
 | .jl ..,v,hv=>by simp[RV]at hv
 | .sl ..,v,hv=>by simp[RV]at hv
 | .agg ..,v,hv=>by simp[RV]at hv
 | .tup ..,v,hv=>by simp[RV]at hv
 | .fn ..,v,hv=>by simp[RV]at hv
 | .map ..,v,hv=>by simp[RV]at hv
 | .pn,v,hv=>by simp[RV]at hv
 | .pb ..,v,hv=>by simp[RV]at hv
 | .pi ..,v,hv=>by simp[RV]at hv
 | .pc ..,v,hv=>by simp[RV]at hv
 | .pr ..,v,hv=>by simp[RV]at hv
 | .pm ..,v,hv=>by simp[RV]at hv
end
def QA{S S':AV->Value->Prop}{p:AV}{r:Nat->Option Value}(h:∀ a v,(∀ t∈tags a,t∈tags p)->S a v->S' (ren ρ τ a) v)(hp:GP S p r):GP S' (ren ρ τ p) r:=by
 cases p<;>simp only[GP,ren]at hp ⊢<;>try exact hp
 case pc l=>
  intro j a ha;rw[jc,axP]at ha;cases hb:l[j]? with
  | none=>rw[hb]at ha;cases ha
  | some b=>
   rw[hb]at ha;simp only[axM,axH]at ha;subst ha;obtain⟨v,h1,h2,h3⟩:=hp j b hb;exact⟨v,h1,h2,h b v (fun t ht=>by simp only[tags];exact iW (axT hb) t ht) h3⟩
 case pr e l=>
  refine⟨hp.1,fun j a ha=>?_⟩;rw[jc,axP]at ha;cases hb:l[j]? with
  | none=>rw[hb]at ha;cases ha
  | some b=>
   rw[hb]at ha;simp only[axM,axH]at ha;subst ha;obtain⟨cs,rfl,h1,h2⟩:=hp.2 j b hb;refine⟨bU ρ τ cs,by simp[ren],by rw[oC,h1],fun k a ha=>?_⟩;rw[jc,axP]at ha;cases hc:cs[k]? with
   | none=>rw[hc]at ha;cases ha
   | some c=>
    rw[hc]at ha;simp only[axM,axH]at ha;subst ha;obtain⟨v,h3,h4,h5⟩:=h2 k c hc;exact⟨v,h3,h4,h c v (fun t ht=>by
     simp only[tags];exact iW (axT hb) t (by simp only[tags];exact iW (axT hc) t ht)) h5⟩
def aU.ren(R:Ren ρ τ K K' T T' ok){a:AV}{v:Value}(ht:∀ t∈tags a,ok t)(h:aU K T a v):aU K' T' (ren ρ τ a) v:=by
 cases a
 case ptr o i f g=>
  simp only[aU]at h;rcases hρ:ρ o g with _|⟨o',g'⟩
  .simp only[Go.AM.ren,hρ,aU,RV]
  .simp only[Go.AM.ren,hρ];obtain⟨h1,ob,h2,h3⟩:=R.h o g o' g' hρ;obtain⟨ho,hg⟩:=cZ.1 h2;simp only[aU];refine⟨h1,h.2.1,fun ob' EM=>⟨(h3 ob' EM).1,fun e=>?_⟩⟩;obtain⟨h4,h5⟩:=(h3 ob' EM).2 e;obtain⟨h6,h7⟩:=(h.2.2 ob ho).2 hg;rw[h4,h5.1,h5.2.2.2];exact⟨h6,h7⟩
 case sl o off len g=>
  simp only[aU]at h;rcases hρ:ρ o g with _|⟨o',g'⟩
  .simp only[Go.AM.ren,hρ,aU,RV]
  .simp only[Go.AM.ren,hρ];obtain⟨h1,ob,h2,h3⟩:=R.h o g o' g' hρ;obtain⟨ho,hg⟩:=cZ.1 h2;simp only[aU];refine⟨h1,h.2.1,fun ob' EM=>⟨(h3 ob' EM).1,fun e=>?_⟩⟩;obtain⟨h4,h5⟩:=(h3 ob' EM).2 e;have:=(h.2.2 ob ho).2 hg;unfold EK at this ⊢;rw[h4,h5.1,h5.2.1,h5.2.2.1,h5.2.2.2];exact this
 case map o g=>
  simp only[aU]at h;rcases hρ:ρ o g with _|⟨o',g'⟩
  .simp only[Go.AM.ren,hρ,aU,RV]
  .simp only[Go.AM.ren,hρ];obtain⟨h1,ob,h2,h3⟩:=R.h o g o' g' hρ;obtain⟨ho,hg⟩:=cZ.1 h2;simp only[aU];refine⟨h1,h.2.1,fun ob' EM=>⟨(h3 ob' EM).1,fun e=>?_⟩⟩;obtain⟨h4,h5⟩:=(h3 ob' EM).2 e;obtain⟨h6,h7⟩:=(h.2.2 ob ho).2 hg;rw[h4,h5.2.2.2];exact⟨h6,h7⟩
 case ro c p t=>
  simp only[aU,Go.AM.ren]at h ⊢;rw[R.w];have:=ql (w:=K.w) (w':=K.w) (fun b hb=>⟨R.t t (ht t (by simp[tags])) b hb,fun _ _ h=>h⟩) _ _ h;simpa[RV]using this
 all_goals
  simp only[aU]at h;have:=Qz (w:=K.w) ρ τ _ _ h;simp only[Go.AM.ren]at this ⊢;simp only[aU];rw[R.w];exact this
def iZ.ren(R:Ren ρ τ K K' T T' ok){p:AV}{r:Nat->Option Value}(ht:∀ t∈tags p,ok t)(h:iZ K T p r):iZ K' T' (ren ρ τ p) r :=
 QA (fun _ _ hs h=>aU.ren R (fun t h'=>ht t (hs t h')) h) h
def Lc(ρ:Nat->Nat->Option (Nat×Nat))(τ:Nat->Nat)(p:AV):aV (ren ρ τ p)=aV p:=by
 unfold aV;rw[ND,NG]
def aK.s{K:Kx}{T:Nat->Nat->Prop}{a:AV}{v:Value}(h:aU K T a v):aK K T a v:=by
 cases a<;>simp only[aK]<;>first|exact h|(simp[aU,RV]at h;done)
def aK.ren(R:Ren ρ τ K K' T T' ok){a:AV}{v:Value}(ht:∀ t∈tags a,ok t)(h:aK K T a v):aK K' T' (ren ρ τ a) v:=by
 cases a
 case agg p=>
  simp only[aK,Go.AM.ren]at h ⊢;obtain⟨cs,h1,h2,h3⟩:=h;exact⟨cs,h1,by rw[Lc];exact h2,iZ.ren R ht h3⟩
 case fn f l=>
  simp only[aK,Go.AM.ren]at h ⊢;obtain⟨vs,h1,h2,h3⟩:=h;refine⟨vs,h1,by rw[oC];exact h2,fun j a ha=>?_⟩;rw[jc,axP]at ha;cases hb:l[j]? with
  | none=>rw[hb]at ha;cases ha
  | some b=>
   rw[hb]at ha;simp only[axM,axH]at ha;subst ha;obtain⟨u,h4,h5⟩:=h3 j b hb;exact⟨u,h4,aU.ren R (fun t h'=>ht t (by simp only[tags];exact iW (axT hb) t h')) h5⟩
 case jl p i f t=>
  simp only[aK,Go.AM.ren]at h ⊢;obtain⟨b,off,h1,h2,h3,h4⟩:=h;have hn:=fun b hb=>R.t t (ht t (by simp[tags])) b hb;exact⟨b,off,h1,h2,hn b h3,by rw[R.w];exact jM (fun b hb=>⟨hn b hb,fun _ _ h=>h⟩) p _ _ (fun _ _ h=>h) h4⟩
 all_goals exact aK.s (aU.ren R ht h)
def aF.ren(R:Ren ρ τ K K' T T' ok){a:AV}{v:Value}(ht:∀ t∈tags a,ok t)(h:aF K T a v):aF K' T' (ren ρ τ a) v:=by
 by_cases hn:oP a=true
 .have h1:aK K T a v:=by cases a<;>first|exact h|(simp[oP]at hn;done)
  exact(aK.ren R ht h1).v
 .cases a<;>simp[oP]at hn
  case tup l=>
   simp only[aF,Go.AM.ren]at h ⊢;obtain⟨vs,h1,h2,h3⟩:=h;refine⟨vs,h1,by rw[oC];exact h2,fun j a ha=>?_⟩;rw[jc,axP]at ha;cases hb:l[j]? with
   | none=>rw[hb]at ha;cases ha
   | some b=>
    rw[hb]at ha;simp only[axM,axH]at ha;subst ha;obtain⟨u,h4,h5⟩:=h3 j b hb;exact⟨u,h4,aK.ren R (fun t h'=>ht t (by simp only[tags];exact iW (axT hb) t h')) h5⟩
def aK.abq(R:Ren ρ τ K K' T T' ok){a:AV}{v:Value}(ht:∀ t∈Gu a,ok t)(h:aK K T a v):aK K' T' (Go.AM.ren ρ τ a) v:=by
 cases a
 case ro c p t=>
  by_cases hp:ah p=0
  .simp only[aK,aU,RV,Go.AM.ren]at h ⊢;obtain⟨ad,cap,h1,h2,h3⟩:=h;exact⟨ad,cap,h1,h2,fun _ _ hn=>absurd hp hn⟩
  .exact aK.ren R (fun t' h'=>ht t' (by simpa[Gu,hp,tags]using h')) h
 all_goals exact aK.ren R ht h
def aF.abq(R:Ren ρ τ K K' T T' ok){a:AV}{v:Value}(ht:∀ t∈uf a,ok t)(h:aF K T a v):aF K' T' (Go.AM.ren ρ τ a) v:=by
 by_cases hn:oP a=true
 .have h1:aK K T a v:=by cases a<;>first|exact h|(simp[oP]at hn;done)
  exact(aK.abq R (by cases a<;>first|exact ht|(simp[oP]at hn;done)) h1).v
 .cases a<;>simp[oP]at hn
  case tup l=>
   simp only[aF,Go.AM.ren]at h ⊢;obtain⟨vs,h1,h2,h3⟩:=h;refine⟨vs,h1,by rw[oC];exact h2,fun j a ha=>?_⟩;rw[jc,axP]at ha;cases hb:l[j]? with
   | none=>rw[hb]at ha;cases ha
   | some b=>
    rw[hb]at ha;simp only[axM,axH]at ha;subst ha;obtain⟨u,h4,h5⟩:=h3 j b hb;exact⟨u,h4,aK.abq R (fun t h'=>ht t (by simp only[uf];exact ayX.2 ⟨b,axT hb,h'⟩)) h5⟩
def dO(ρ:Nat->Nat->Option (Nat×Nat))(τ:Nat->Nat)(g:Nat)(ob:Obj):Same ob (aQ ρ τ g ob) :=
 ⟨NG ρ τ ob.p,ND ρ τ ob.p,rfl,NH ρ τ ob.p⟩
def abr{w:World}{N N':Nat->Prop}{a:AV}{v:Value}(h:tags a=[])(hv:RV w N a v):RV w N' a v:=by
 cases a<;>first|(simp[tags]at h;done)|exact hv|(simp[RV]at hv;done)|(simpa[RV]using hv)
def Ed{ob:Obj}{t:Nat}(h:t∈lu ob):t∈dn ob:=by
 unfold lu at h;split at h
 .cases h
 .exact h
def fZ.ren(R:Ren ρ τ K K' T T' ok){ob:Obj}{r:Nat->Option Value}{g:Nat}(ht:∀ t∈lu ob,ok t)(h:fZ K T ob r):fZ K' T' (aQ ρ τ g ob) r:=by
 have e:(aQ ρ τ g ob).ids=ob.ids:=rfl;have e2:(aQ ρ τ g ob).p=Go.AM.ren ρ τ ob.p:=rfl;have e3:(aQ ρ τ g ob).tg=τ ob.tg:=rfl;unfold fZ at h ⊢;unfold lu dn at ht;by_cases hi:ob.ids=true
 .rw [if_pos hi]at h ht;rw[if_neg (by simp[hi])]at ht;rw[e,if_pos hi,e2];exact iZ.ren R ht h
 .rw [if_neg hi]at h ht;rw[e,if_neg hi,e2,e3];by_cases hf:tags ob.p=[]
  .rw [R.w];refine jE.2 (QA (fun a v hs hv=>?_) (jE.1 h));have ha:tags a=[]:=azu.2 fun t h'=>by have:=hs t h';rw[hf]at this;cases this
   exact Qz ρ τ a v (abr ha hv)
  rw[if_neg (by simp[hf])]at ht;have hn:=fun b hb=>R.t ob.tg (ht _ (by simp)) b hb;rw[R.w];refine jE.2 (QA (fun a v _ hv=>?_) (jE.1 h));exact Qz ρ τ a v (ql (fun b hb=>⟨hn b hb,fun _ _ h=>h⟩) a v hv)
def nJ.ren{k:AV}{v:Value}(h:nJ k v):nJ (Go.AM.ren ρ τ k) v:=by
 unfold nJ at h;split at h<;>simp_all [Go.AM.ren,nJ]
def gB.ren(R:Ren ρ τ K K' T T' ok){k o:Nat}{ob:Obj}{g:Nat}(ht:∀ t∈lu ob,ok t)(hμ:K'.μ o=K.μ k)(h:gB K T k ob):gB K' T' o (aQ ρ τ g ob):=by
 by_cases hpm:ig ob.p=true
 .cases hp:ob.p<;>rw[hp]at hpm<;>simp only[ig,axZ]at hpm
  case pm l=>
   have hl:∀ t∈aW l,ok t:=by
    intro t h';refine ht t ?_;unfold lu dn;rw[hp];rw[if_neg (by
     intro h0;simp only[ax4,azG,tags]at h0;rw[h0.2]at h';cases h')]
    split
    .simpa [tags]using h'
    .simp [h']
   unfold gB at h ⊢;simp only[aQ,hp,Go.AM.ren]at h ⊢;rw[hμ,R.w];obtain⟨es,clock,h1,h2,h3,h4⟩:=h;refine⟨es,clock,h1,by rw[oC];exact h2,by rw[oC];exact h3,fun i a ha=>?_⟩;rw[jc,axP]at ha;cases hb:l[i]? with
   | none=>rw[hb]at ha;cases ha
   | some b=>
    rw[hb]at ha;simp only[axM,axH]at ha;subst ha;obtain⟨k,v,e,rfl,h6,h7,h8,h9⟩:=h4 i b hb;refine⟨Go.AM.ren ρ τ k,Go.AM.ren ρ τ v,e,by simp[Go.AM.ren,bU],h6,h7,nJ.ren h8,aK.ren R (fun t h'=>hl t (iW (axT hb) t ?_)) h9⟩;simp[tags,aW,h']
 .have NI:ig ob.p=false:=by simpa using hpm
  have aiq:ig (aQ ρ τ g ob).p=false:=by simp only[aQ];rw[NH];exact NI
  obtain⟨h1,h2⟩:=h.open NI;have hS:=dO ρ τ g ob;have:vW (K'.μ o) (aQ ρ τ g ob)/\Bd K' T' (K'.μ o) (aQ ρ τ g ob):=by
   rw[hμ];refine⟨?_,fun hc=>?_⟩
   .unfold vW at h1 ⊢;rw[hS.2.1,hS.2.2.1];exact h1
   .obtain ⟨cur,E,h3,h4,h5,h6⟩:=h2 hc;exact⟨cur,E,by rw[R.w];exact h3,by rw[hS.1];exact h4,by rw[hS.1];exact h5,fZ.ren R ht h6⟩
  unfold gB;split
  .rename_i heq;rw[heq]at aiq;simp[ig]at aiq
  .exact this
end
def vC(H:Heap):∀ (n:Nat) (l acc:List Nat),acc.Nodup->(∀ o∈acc,∃ ob,H[o]?=some (some ob))->(reach H n l acc).Nodup/\∀ o∈reach H n l acc,∃ ob,H[o]?=some (some ob)
 | 0,_,acc,h1,h2=>by simpa[reach]using⟨h1,h2⟩
 | n+1,[],acc,h1,h2=>by simpa[reach]using⟨h1,h2⟩
 | n+1,o::r,acc,h1,h2=>by
  unfold reach;split
  .exact vC H n r acc h1 h2
  .rename_i hc;split
   .rename_i ob hob;refine vC H n _ _ ?_ ?_
    .rw [azF];refine⟨h1,by simp,fun a ha b hb=>?_⟩;simp only[ayb]at hb;subst hb;rintro rfl;exact hc (by simpa using ha)
    .intro x hx;rcases axV.1 hx with hx|hx
     .exact h2 x hx
     .simp only[ayb]at hx;subst hx;exact⟨ob,hob⟩
   .exact vC H n r acc h1 h2
def oQ(K:Kx)(o b:Nat):Prop:=∃ ob,K.H[o]?=some (some ob)/\Real ob (K.μ o)/\(K.μ o).blk=b
def oQ.own{K:Kx}{o b:Nat}(h:oQ K o b):Own K b:=let ⟨ob,h1,h2,h3⟩:=h;⟨o,ob,h1,h2,h3⟩
def oQ.inj{C:Ctx}{K:Kx}{T:Nat->Nat->Prop}(hI:Inv C K T){o o' b:Nat}(h:oQ K o b)(h':oQ K o' b):o=o':=by
 obtain⟨ob,h1,h2,h3⟩:=h;obtain⟨ob',h4,h5,h6⟩:=h';exact hI.inj o o' ob ob' h1 h4 h2 h5 (h3.trans h6.symm)
def Tc(K:Kx)(T:Nat->Nat->Prop)(π:List Nat)(ls:List fB)(t b:Nat):Prop :=
 K.w.heap.size<=b\/(∃ o∈π,oQ K o b)\/(t=dA/\NT K T dA b) \/
 ∃ i x,t=i+1/\ls[i]?=some x/\((∃ o∈x.objs,oQ K o b)\/∃ t'∈x.tags,NT K T t' b)
def jy(K:Kx)(π:List Nat)(t:Nat):Kx:=⟨fun k=>K.μ (π.getD k 0),π.map (fun o=>(aP K.H o).map (aQ (bV K.H π) (fun _=>t) 0)),K.w⟩
def vZ:∀ {l:List Nat} {o i k:Nat},idxOf l o i=some k->i<=k/\l[k-i]?=some o
 | [],o,i,k,h=>by simp[idxOf]at h
 | a::r,o,i,k,h=>by
  unfold idxOf at h;split at h
  .rename_i ha;simp only[axH]at h;subst h;subst ha;simp
  .obtain ⟨h1,h2⟩:=vZ h;refine⟨by omega,?_⟩;rw[show k-i=(k-(i+1))+1 by omega];simpa using h2
def pJ{H:Heap}{o:Nat}{ob:Obj}:aP H o=some ob ↔ H[o]?=some (some ob):=by
 unfold aP;cases h:H[o]? with
 | none=>simp
 | some x=>simp
def wo{ob:Obj}:∀ {l:List (Option Obj)},some ob∈l->∀ t∈dn ob,t∈au l
 | [],h,_,_=>by simp at h
 | none::r,h,t,ht=>by
  have:some ob∈r:=by simpa using h
  simpa[au]using wo this t ht
 | some a::r,h,t,ht=>by
  simp only[ax2,axH]at h;rcases h with rfl|h
  .simp [au,ht]
  .simp [au,wo h t ht]
def qw{ob:Obj}:∀ {l:List (Option Obj)},some ob∈l->∀ t∈lu ob,t∈dD l
 | [],h,_,_=>by simp at h
 | none::r,h,t,ht=>by
  have:some ob∈r:=by simpa using h
  simpa[dD]using qw this t ht
 | some a::r,h,t,ht=>by
  simp only[ax2,axH]at h;rcases h with rfl|h
  .simp [dD,ht]
  .simp [dD,qw h t ht]
def qx{t:Nat}:∀ {l:List (Option Obj)},t∈dD l->t∈au l
 | [],h=>by cases h
 | none::r,h=>by
  simp only[dD]at h;simp only[au];exact qx h
 | some ob::r,h=>by
  simp only[dD,axV]at h;simp only[au,axV];exact h.imp Ed qx
def Dn{a:AV}{t:Nat}(h:t∈Gu a):t∈tags a:=by
 cases a<;>try exact h
 case ro c p t'=>
  simp only[Gu]at h;split at h
  .cases h
  .simpa [tags]using h
def Df{a:AV}{t:Nat}(h:t∈uf a):t∈tags a:=by
 cases a<;>try exact Dn h
 case tup l=>
  obtain⟨b,hb,ht⟩:=ayX.1 h;simp only[tags];obtain⟨j,hj⟩:=List.getElem?_of_mem hb;exact iW hb t (Dn ht)
section
variable {C:Ctx}{K:Kx}{T:Nat->Nat->Prop}{π:List Nat}{ls:List fB}{n:Nat}
def rP{k:Nat}{ob':Obj}(h:(jy K π n).H[k]?=some (some ob')) :
 ∃ o ob,π[k]?=some o/\K.H[o]?=some (some ob)/\ob'=aQ (bV K.H π) (fun _=>n) 0 ob/\(jy K π n).μ k=K.μ o:=by
 simp only[jy,axP]at h;cases ho:π[k]? with
 | none=>rw[ho]at h;cases h
 | some o=>
  rw[ho]at h;simp only[axM,axH]at h;cases hob:aP K.H o with
  | none=>rw[hob]at h;cases h
  | some ob=>
   rw[hob]at h;simp only[axM,axH]at h;exact⟨o,ob,rfl,pJ.1 hob,h.symm,by simp[jy,ho]⟩
def Real.same{ob ob':Obj}{m:Pl}(hs:Same ob ob'):Real ob' m ↔ Real ob m:=by
 unfold Real;rw[hs.2.2.2]
def pK{b:Nat}:Own (jy K π n) b->∃ o∈π,oQ K o b:=by
 rintro⟨k,ob',h1,h2,h3⟩;obtain⟨o,ob,g1,g2,g3,g4⟩:=rP h1;subst g3;rw[g4]at h2 h3;exact⟨o,axT g1,ob,g2,(Real.same (dO _ _ _ ob)).1 h2,h3⟩
def GL(hI:Inv C K T){t' t b:Nat}(h:NT K T t' b)(ht:Tc K T π ls t b):NT (jy K π n) (Tc K T π ls) t b :=
 ⟨ht,fun ho=>let ⟨_,_,h1⟩:=pK ho;h.2.1 h1.own,h.2.2⟩
def Dp(hI:Inv C K T)(τ:Nat->Nat)(ok:Nat->Prop)(hok:∀ t,ok t->∀ b,NT K T t b->Tc K T π ls (τ t) b):Ren (bV K.H π) τ K (jy K π n) T (Tc K T π ls) ok where
 w:=rfl
 h:=by
  intro o g o' g' h;unfold bV at h;split at h
  .rename_i ob hob;cases hi:idxOf π o 0 with
   | none=>rw[hi]at h;cases h
   | some k=>
    rw[hi]at h;simp only[axM,axH,axJ]at h;obtain⟨rfl,rfl⟩:=h;obtain⟨_,h1⟩:=vZ hi;rw[azL]at h1;refine⟨by have:=(axK.1 h1).1;simpa[jy]using this,ob,hob,fun ob' EM=>⟨ayF _,fun _=>?_⟩⟩;obtain⟨o2,ob2,g1,g2,g3,g4⟩:=rP EM;rw[h1]at g1;simp only[axH]at g1;subst g1;rw[(cZ.1 hob).1]at g2;simp only[axH]at g2;subst g2;subst g3;exact⟨g4,dO _ _ _ ob⟩
  .cases h
 t:=fun t ht b hb=>GL hI hb (hok t ht b hb)
def Vb(hI:Inv C K T)(hnd:π.Nodup)(hn:n+1<dA)(hother:ls[n]?=some ⟨[],au (π.map (aP K.H))⟩):Inv C (jy K π (n+1)) (Tc K T π ls) where
 obj:=by
  intro k ob' h;obtain⟨o,ob,g1,g2,g3,g4⟩:=rP h;subst g3;have hmem:∀ t∈lu ob,t∈au (π.map (aP K.H)):=by intro t ht;exact wo (ayd.2 ⟨o,axT g1,pJ.2 g2⟩) t (Ed ht)
  exact gB.ren (Dp (n:=n+1) hI (fun _=>n+1) (fun t=>t∈au (π.map (aP K.H))) (fun t ht b hb=>.inr (.inr (.inr ⟨n,_,rfl,hother,.inr ⟨t,ht,hb⟩⟩)))) hmem g4 (hI.obj o ob g2)
 inj:=by intro k k' ob ob' h h' hr hr' hb;obtain⟨o,ob1,g1,g2,g3,g4⟩:=rP h;obtain⟨o',EN,g1',g2',g3',g4'⟩:=rP h';subst g3;subst g3';rw[g4]at hr hb;rw[g4']at hr' hb;have:=hI.inj o o' ob1 EN g2 g2' ((Real.same (dO _ _ _ _)).1 hr) ((Real.same (dO _ _ _ _)).1 hr') hb;subst this;have e1:=axK.1 g1;have e2:=axK.1 g1';exact(azn hnd).1 (e1.2.trans e2.2.symm)
 own:=by intro b hb;obtain⟨o,ho,h⟩:=pK hb;exact⟨(hI.own b h.own).1,.inr (.inl ⟨o,ho,h⟩)⟩
 new:=fun b hb=>.inl hb
 mono:=by
  rintro t b (h|h|⟨h,_⟩|⟨i,x,h,_⟩)
  .exact .inl h
  .exact .inr (.inl h)
  .simp [dA]at h
  .omega
 glob:=by intro g p hg;obtain⟨h1,h2,h3⟩:=hI.glob g p hg;have hnt:∀ b,NT K T dA b->NT (jy K π (n+1)) (Tc K T π ls) dA b:=fun b hb=>GL hI hb (.inr (.inr (.inl ⟨rfl,hb⟩)));exact⟨h1,hnt _ h2,jM (fun b hb=>⟨hnt b hb,fun _ _ h=>h⟩) p _ _ (fun _ _ h=>h) h3⟩
end
def Cv(ls:List fB)(i:Nat)(y:fB):Prop:=∃ x,ls[i]?=some x/\(∀ o∈y.objs,o∈x.objs)/\∀ t∈y.tags,t∈x.tags
def Off(π:List Nat)(y:fB):Prop:=∀ o∈y.objs,o∉π
section
variable {C:Ctx}{K:Kx}{T:Nat->Nat->Prop}{π:List Nat}{ls:List fB}{n i:Nat}
def GN(hI:Inv C K T){y:fB}(hc:Cv ls i y){t' b:Nat}(ht:t'∈y.tags)(h:NT K T t' b):NT (jy K π n) (Tc K T π ls) (i+1) b:=by
 obtain⟨x,h1,_,h3⟩:=hc;exact GL hI h (.inr (.inr (.inr ⟨i,x,rfl,h1,.inr ⟨t',h3 _ ht,h⟩⟩)))
def Y2(hI:Inv C K T){y:fB}(hc:Cv ls i y)(hd:Off π y){o b:Nat}(ho:o∈y.objs)(h:oQ K o b):NT (jy K π n) (Tc K T π ls) (i+1) b:=by
 obtain⟨x,h1,h2,_⟩:=hc;refine⟨.inr (.inr (.inr ⟨i,x,rfl,h1,.inl ⟨o,h2 _ ho,h⟩⟩)),fun hO=>?_,(hI.own _ h.own).1⟩;obtain⟨o',h3,h4⟩:=pK hO;exact hd o ho (by rw[oQ.inj hI h h4];exact h3)
def Ld(hI:Inv C K T){a:AV}{v:Value}(h:aF K T a v)(ht:tags a=[]):aF (jy K π n) (Tc K T π ls) (ren (bV K.H π) (fun t=>t) a) v :=
 aF.ren (Dp (n:=n) hI (fun t=>t) (fun _=>False) (fun _ h=>h.elim)) (by simp[ht]) h
def ael(hI:Inv C K T){a:AV}{v:Value}(h:aU K T a v)(ht:tags a=[]):aU (jy K π n) (Tc K T π ls) (ren (bV K.H π) (fun t=>t) a) v :=
 aU.ren (Dp (n:=n) hI (fun t=>t) (fun _=>False) (fun _ h=>h.elim)) (by simp[ht]) h
def Y3{H:Heap}{t o off len g:Nat}{a':AV}{y:fB}(h:dS H t (.sl o off len g)=some (a',y)) :
 ∃ ob p,live H o g=some ob/\¬ ob.ids=true/\gq ob.p off len=some p/\a'=.ro (if ob.z=0/\ah ob.p=0 then 0 else 2) p t/\y=⟨[o],[ob.tg]⟩:=by
 simp only[dS]at h;split at h
 .rename_i ob hob;split at h
  .cases h
  .rename_i jQ;cases hp:gq ob.p off len with
   | none=>rw[hp]at h;cases h
   | some p=>
    rw[hp]at h;simp only[axM,axH,axJ]at h;exact⟨ob,p,hob,jQ,hp,h.1.symm,h.2.symm⟩
 .cases h
def Le(hI:Inv C K T){a a':AV}{v:Value}{y:fB}(hv:aU K T a v)(h:dS K.H (i+1) a=some (a',y))(hc:Cv ls i y)(hd:Off π y) :
 aU (jy K π n) (Tc K T π ls) (ren (bV K.H π) (fun t=>t) a') v:=by
 unfold dS at h;split at h
 .rename_i o off len g;obtain⟨ob,p,h1,h2,h3,rfl,rfl⟩:=Y3 (H:=K.H) (t:=i+1) (by unfold dS;exact h);obtain⟨h4,h5⟩:=cZ.1 h1;simp only[aU]at hv;obtain⟨ad,cap,rfl,h6,h7⟩:=EK.ro hI h1 h2 ((hv.2.2 ob h4).2 h5) h3;simp only[ren,aU,RV];refine⟨ad,cap,rfl,h6,fun a ha hn=>?_⟩;obtain⟨h8,h9,h10,h11⟩:=h7 a ha hn;exact⟨h8,Y2 hI hc hd (o:=o) (by simp) ⟨ob,h4,h10,h9.symm⟩,jM (w':=K.w) (fun b hb=>⟨GN hI hc (by simp) hb,fun _ _ h=>h⟩) _ _ _ (fun _ _ h=>h) h11⟩
 .simp only[axH,axJ]at h;obtain⟨rfl,rfl⟩:=h;simp only[ren,aU]at hv ⊢;rename_i c p t';have:=ql (w':=K.w) (N':=NT (jy K π n) (Tc K T π ls) (i+1)) (fun b hb=>⟨GN hI hc (t':=t') (by simp) hb,fun _ _ h=>h⟩) _ _ hv;rw[RV]at this ⊢;exact this
 .simp only[aU,RV]at hv
 .split at h
  .rename_i ht;simp only[axH,axJ]at h;obtain⟨rfl,rfl⟩:=h;exact ael hI hv (by simpa using ht)
  .cases h
def Y4(hI:Inv C K T){a a':AV}{v:Value}{y:fB}(hv:aK K T a v)(hn:oP a=true)(h:dS K.H (i+1) a=some (a',y))(hc:Cv ls i y)(hd:Off π y) :
 aF (jy K π n) (Tc K T π ls) (ren (bV K.H π) (fun t=>t) a') v:=by
 cases a
 case jl p j f t'=>
  simp only[dS,axH,axJ]at h;obtain⟨rfl,rfl⟩:=h;simp only[ren,aF,aK]at hv ⊢;obtain⟨b,off,h1,h2,h3,h4⟩:=hv;have hm:=fun b (hb:NT K T t' b)=>GN (π:=π) (n:=n) hI hc (t':=t') (by simp) hb;exact⟨b,off,h1,h2,hm b h3,jM (w':=K.w) (fun b hb=>⟨hm b hb,fun _ _ h=>h⟩) p _ _ (fun _ _ h=>h) h4⟩
 case agg p=>
  simp only[dS]at h;split at h
  .rename_i ht;simp only[axH,axJ]at h;obtain⟨rfl,rfl⟩:=h;exact Ld hI (aK.v hv) (by simpa using ht)
  .cases h
 case fn f l=>
  simp only[dS]at h;split at h
  .rename_i ht;simp only[axH,axJ]at h;obtain⟨rfl,rfl⟩:=h;exact Ld hI (aK.v hv) (by simpa using ht)
  .cases h
 case tup l=>simp[oP]at hn
 all_goals
  have hs:=Le (n:=n) hI (by simpa[aK]using hv) h hc hd;have h1:=aK.s hs;exact aK.v h1
def Dq{H:Heap}{t:Nat}:∀ {l l':List AV} {y:fB},iC H t l=some (l',y)->l'.length=l.length /\
 ∀ (j:Nat) (a':AV),l'[j]?=some a'->∃ a x,l[j]?=some a/\dS H t a=some (a',x)/\(∀ o∈x.objs,o∈y.objs)/\∀ t∈x.tags,t∈y.tags
 | [],l',y,h=>by
  simp only[iC,axH,axJ]at h;obtain⟨rfl,rfl⟩:=h;simp
 | a::r,l',y,h=>by
  simp only[iC]at h;split at h
  .rename_i a' x r' z h1 h2;simp only[axH,axJ]at h;obtain⟨rfl,rfl⟩:=h;obtain⟨h3,h4⟩:=Dq h2;refine⟨by simp[h3],fun j b hb=>?_⟩;cases j with
   | zero=>
    simp only[ayf,axH]at hb;subst hb;exact⟨a,x,rfl,h1,fun o ho=>axV.2 (.inl ho),fun o ho=>axV.2 (.inl ho)⟩
   | succ j=>
    simp only[axX]at hb;obtain⟨c,z',h5,h6,h7,h8⟩:=h4 j b hb;exact⟨c,z',by simpa using h5,h6,fun o ho=>axV.2 (.inr (h7 o ho)),fun o ho=>axV.2 (.inr (h8 o ho))⟩
  .cases h
def Cv.sub{y x:fB}(hc:Cv ls i y)(h1:∀ o∈x.objs,o∈y.objs)(h2:∀ t∈x.tags,t∈y.tags):Cv ls i x :=
 let ⟨z,h3,h4,h5⟩:=hc;⟨z,h3,fun o ho=>h4 o (h1 o ho),fun t ht=>h5 t (h2 t ht)⟩
def abt(hI:Inv C K T){a a':AV}{v:Value}{y:fB}(hv:aF K T a v)(h:dY K.H (i+1) a=some (a',y))(hc:Cv ls i y)(hd:Off π y) :
 aF (jy K π n) (Tc K T π ls) (ren (bV K.H π) (fun t=>t) a') v:=by
 unfold dY at h;split at h
 .rename_i l;cases hl:iC K.H (i+1) l with
  | none=>rw[hl]at h;cases h
  | some z=>
   obtain⟨l',z⟩:=z;rw[hl]at h;simp only[axM,axH,axJ]at h;obtain⟨rfl,rfl⟩:=h;obtain⟨h1,h2⟩:=Dq hl;simp only[aF,aK]at hv;obtain⟨cs,rfl,h3,h4⟩:=hv;simp only[ren,aF,aK];refine⟨cs,rfl,by simpa[aV,ah,aS,oC,h1]using h3,?_⟩;simp only[iZ,GP]at h4 ⊢;intro j b hb;rw[jc,axP]at hb;cases hc':l'[j]? with
   | none=>rw[hc']at hb;cases hb
   | some b'=>
    rw[hc']at hb;simp only[axM,axH]at hb;subst hb;obtain⟨a,x,h5,h6,h7,h8⟩:=h2 j b' hc';obtain⟨v,h9,h10,h11⟩:=h4 j a h5;exact⟨v,h9,h10,Le hI h11 h6 (hc.sub h7 h8) (fun o ho=>hd o (h7 o ho))⟩
 .rename_i f l;cases hl:iC K.H (i+1) l with
  | none=>rw[hl]at h;cases h
  | some z=>
   obtain⟨l',z⟩:=z;rw[hl]at h;simp only[axM,axH,axJ]at h;obtain⟨rfl,rfl⟩:=h;obtain⟨h1,h2⟩:=Dq hl;simp only[aF,aK]at hv;obtain⟨vs,rfl,h3,h4⟩:=hv;simp only[ren,aF,aK];refine⟨vs,rfl,by simpa[oC,h1]using h3,fun j b hb=>?_⟩;rw[jc,axP]at hb;cases hc':l'[j]? with
   | none=>rw[hc']at hb;cases hb
   | some b'=>
    rw[hc']at hb;simp only[axM,axH]at hb;subst hb;obtain⟨a,x,h5,h6,h7,h8⟩:=h2 j b' hc';obtain⟨v,h9,h11⟩:=h4 j a h5;exact⟨v,h9,Le hI h11 h6 (hc.sub h7 h8) (fun o ho=>hd o (h7 o ho))⟩
 .by_cases hn:oP a=true
  .have h1:aK K T a v:=by cases a<;>first|exact hv|(simp[oP]at hn;done)
   exact Y4 hI h1 hn h hc hd
  .cases a<;>simp[oP]at hn
   case tup l=>
    simp only[dS]at h;split at h
    .rename_i ht;simp only[axH,axJ]at h;obtain⟨rfl,rfl⟩:=h;exact Ld hI hv (by simpa using ht)
    .cases h
def Ee(hI:Inv C K T){f:Nat}:∀ {args:List AV} {vs:List Value} {as:List AV} {xs:List fB} {i:Nat},fD K T args vs->aH C f K.H i args=some (as,xs) ->
 (∀ (j:Nat) (x:fB),xs[j]?=some x->ls[i+j]?=some x)->(∀ x∈xs,Off π x)->fD (jy K π n) (Tc K T π ls) (bU (bV K.H π) (fun t=>t) as) vs
 | [],vs,as,xs,i,ha,h,_,_=>by
  rw[ha.nil];simp only[aH,axH,axJ]at h;obtain⟨rfl,rfl⟩:=h
  trivial
 | a::r,vs,as,xs,i,ha,h,hls,hd=>by
  obtain⟨v,s,rfl,hv,hr⟩:=ha.cons;simp only[aH]at h;split at h
  .rename_i a' x r' y h1 h2;simp only[axH,axJ]at h;obtain⟨rfl,rfl⟩:=h;have hd1:Off π x:=hd x (by simp);have ih:=Ee hI hr h2 (fun j z hz=>by rw[show i+1+j=i+(j+1)by omega];exact hls (j+1) z (by simpa using hz)) (fun z hz=>hd z (by simp[hz]));refine⟨?_,ih⟩;split at h1
   .simp only[axH,axJ]at h1;obtain⟨rfl,rfl⟩:=h1;exact Ld hI hv rfl
   .exact abt hI hv h1 ⟨x,hls 0 x rfl,fun _ h=>h,fun _ h=>h⟩ hd1
  .cases h
def Jm{C:Ctx}{K:Kx}{T:Nat->Nat->Prop}:∀ {l:List AV} {vs:List Value} {ts:List TypeId},fD K T l vs->fD K T (coerce C l ts) vs
 | [],vs,ts,h=>by simpa[coerce]using h
 | a::r,vs,ts,h=>by
  obtain⟨v,s,rfl,hv,hr⟩:=h.cons;refine⟨?_,Jm hr⟩;split
  .split
   .rename_i c t _ _ _ e _;simp only[aF,aK,aU,RV]at hv ⊢;obtain⟨ad,cap,h1,h2,_⟩:=hv;have:ah (dh C e)=0:=by unfold dh;split<;>rfl
    rw[this];exact⟨ad,cap,h1,h2,fun _ _ h=>absurd rfl h⟩
   .exact hv
  .exact hv
end
def iG{ρ:Nat->Nat->Option (Nat×Nat)}{τ:Nat->Nat}{H:Heap}{π:List Nat}{H1:Heap}:∀ (l:List Nat) (k:Nat) (B:Heap),(bP ρ τ H π H1 k l B).length=B.length
 | [],k,B=>rfl
 | o::r,k,B=>by simp[bP,iG r,upd]
def Ef{ρ:Nat->Nat->Option (Nat×Nat)}{τ:Nat->Nat}{H:Heap}{π:List Nat}{H1:Heap}:∀ {l:List Nat} {k:Nat} {B:Heap} {o:Nat} {ob2:Obj},(bP ρ τ H π H1 k l B)[o]?=some (some ob2)->l.Nodup ->
 (o∉l/\B[o]?=some (some ob2))\/∃ j ob1,l[j]?=some o/\aP H1 (k+j)=some ob1/\ob2=aQ ρ τ (dK H π (k+j) ob1.g) ob1
 | [],k,B,o,ob2,h,_=>.inl ⟨by simp,h⟩
 | a::r,k,B,o,ob2,h,hn=>by
  simp only[bP]at h;obtain⟨hn1,hn2⟩:=azl.1 hn;rcases Ef h hn2 with⟨h1,h2⟩|⟨j,ob1,h1,h2,h3⟩
  .unfold upd at h2;by_cases e:a=o
   .subst e
    right
    rw[azk]at h2;simp only[if_true]at h2;split at h2
    .simp only[axH,ax7]at h2;obtain⟨ob1,h3,h4⟩:=h2;exact⟨0,ob1,rfl,by simpa using h3,by simpa using h4.symm⟩
    .cases h2
   .left
    rw[axU e]at h2;exact⟨by simp[h1,ax6 e],h2⟩
  .right
   refine⟨j+1,ob1,by simpa using h1,by rw[show k+(j+1)=k+1+j by omega];exact h2,by rw[show k+(j+1)=k+1+j by omega];exact h3⟩
def jw:∀ (l:List Nat) (B:Heap),(strike l B).length=B.length
 | [],B=>rfl
 | o::r,B=>by simp[strike,jw r,upd]
def GR:∀ {l:List Nat} {B:Heap} {o:Nat} {ob:Obj},(strike l B)[o]?=some (some ob)->o∉l/\B[o]?=some (some ob)
 | [],B,o,ob,h=>⟨by simp,h⟩
 | a::r,B,o,ob,h=>by
  simp only[strike]at h;obtain⟨h1,h2⟩:=GR h;unfold upd at h2;by_cases e:a=o
  .subst e;rw[azk]at h2;simp only[if_true]at h2;split at h2
   .cases h2
   .cases h2
  .rw [axU e]at h2;exact⟨by simp[h1,ax6 e],h2⟩
def GU:∀ {l:List Nat} {o i:Nat},o∉l->idxOf l o i=none
 | [],_,_,_=>rfl
 | a::r,o,i,h=>by
  simp only[ax2,not_or]at h;simp[idxOf,ax6 h.1,GU h.2]
def Jo:∀ {l:List Nat} {o i k:Nat},l.Nodup->l[k]?=some o->idxOf l o i=some (i+k)
 | [],o,i,k,_,h=>by simp at h
 | a::r,o,i,k,hn,h=>by
  obtain⟨h1,h2⟩:=azl.1 hn;cases k with
  | zero=>
   simp only[ayf,axH]at h;simp[idxOf,h]
  | succ k=>
   simp only[axX]at h;have:a≠o:=fun e=>h1 (e ▸ axT h);simp only[idxOf,this,if_false];rw[Jo h2 h];congr 1;omega
def sO(K:Kx)(π new:List Nat)(K1:Kx)(H2:Heap):Kx :=
 ⟨fun o=>if o<K.H.length then(match idxOf π o 0 with|some k=>K1.μ k|none=>K.μ o)else K1.μ (new.getD (o-K.H.length) 0),H2,K1.w⟩
def xP(ρ:Nat->Nat->Option (Nat×Nat))(τ:Nat->Nat)(H:Heap)(π gone new:List Nat)(H1:Heap):Heap :=
 strike gone (bP ρ τ H π H1 0 π H)++new.map fun o=>(aP H1 o).map (aQ ρ τ 0)
section
variable {C:Ctx}{K K1:Kx}{T:Nat->Nat->Prop}{π new gone:List Nat}{ls:List fB}{n:Nat}{ρ:Nat->Nat->Option (Nat×Nat)}{τ:Nat->Nat}
def Dt:(xP ρ τ K.H π gone new K1.H).length=K.H.length+new.length:=by
 simp[xP,jw,iG]
def pO(hnd:π.Nodup){o:Nat}{ob2:Obj}(h:(sO K π new K1 (xP ρ τ K.H π gone new K1.H)).H[o]?=some (some ob2)) :
 (o<K.H.length/\o∉gone/\o∉π/\K.H[o]?=some (some ob2)/\(sO K π new K1 (xP ρ τ K.H π gone new K1.H)).μ o=K.μ o) \/
 (∃ k ob1,o<K.H.length/\o∉gone/\π[k]?=some o/\K1.H[k]?=some (some ob1)/\ob2=aQ ρ τ (dK K.H π k ob1.g) ob1/\(sO K π new K1 (xP ρ τ K.H π gone new K1.H)).μ o=K1.μ k) \/
 ∃ j k ob1,o=K.H.length+j/\new[j]?=some k/\K1.H[k]?=some (some ob1)/\ob2=aQ ρ τ 0 ob1/\(sO K π new K1 (xP ρ τ K.H π gone new K1.H)).μ o=K1.μ k:=by
 simp only[sO,xP]at h;by_cases hlt:o<K.H.length
 .rw [axL (by rw[jw,iG];exact hlt)]at h;obtain⟨h1,h2⟩:=GR h;rcases Ef h2 hnd with⟨h3,h4⟩|⟨j,ob1,h3,h4,h5⟩
  .left
   exact⟨hlt,h1,h3,h4,by simp only[sO,hlt,if_true,GU h3]⟩
  .right;left
   rw[ayg]at h4 h5;refine⟨j,ob1,hlt,h1,h3,pJ.1 h4,h5,?_⟩;simp only[sO,hlt,if_true,Jo (i:=0) hnd h3,ayg]
 .right;right
  rw[axS (by rw[jw,iG];omega)]at h;rw[jw,iG,axP]at h;cases hk:new[o-K.H.length]? with
  | none=>rw[hk]at h;cases h
  | some k=>
   rw[hk]at h;simp only[axM,axH,ax7]at h;obtain⟨ob1,h1,h2⟩:=h;refine⟨o-K.H.length,k,ob1,by omega,hk,pJ.1 h1,h2.symm,?_⟩;simp only[sO,hlt,if_false,axQ,hk,ayv]
def Du(hnd:π.Nodup){b:Nat}(h:Own (sO K π new K1 (xP ρ τ K.H π gone new K1.H)) b):(∃ o,o∉π/\o∉gone/\oQ K o b)\/Own K1 b:=by
 obtain⟨o,ob2,h1,h2,h3⟩:=h;rcases pO hnd h1 with⟨_,g2,g3,g4,g5⟩|⟨k,ob1,_,_,_,g4,rfl,g5⟩|⟨j,k,ob1,_,_,g4,rfl,g5⟩
 .rw [g5]at h2 h3;exact .inl ⟨o,g3,g2,ob2,g4,h2,h3⟩
 .rw [g5]at h2 h3;exact .inr ⟨k,ob1,g4,(Real.same (dO _ _ _ ob1)).1 h2,h3⟩
 .rw [g5]at h2 h3;exact .inr ⟨k,ob1,g4,(Real.same (dO _ _ _ ob1)).1 h2,h3⟩
def NJ(hI:Inv C K T)(hnd:π.Nodup)(hlive:∀ o∈π,∃ ob,K.H[o]?=some (some ob))(hn:n+1<dA)(E:Evo (Tc K T π ls) π.length (jy K π (n+1)) K1) :
 Evo T K.H.length K (sO K π new K1 (xP ρ τ K.H π gone new K1.H)) where
 lo:=axO _
 len:=by simp only[sO];rw[Dt];omega
 size:=E.size
 os:=E.os
 tape:=E.tape
 output:=E.output
 obj:=by
  intro o ho ob' h;rcases pO hnd h with⟨_,g2,g3,g4,g5⟩|⟨k,ob1,_,_,g3,g4,rfl,g5⟩|⟨j,k,ob1,g,_⟩
  .exact ⟨ob',g4,axO _,fun _=>⟨g5,Same.refl _⟩⟩
  .obtain ⟨ob,hob⟩:=hlive o (axT g3);have hk:k<π.length:=(axK.1 g3).1;obtain⟨ob0,h1,h2,h3⟩:=E.obj k hk ob1 g4;obtain⟨o2,ob3,q1,q2,q3,q4⟩:=rP h1;rw[g3]at q1;simp only[axH]at q1;subst q1;rw[hob]at q2;simp only[axH]at q2;subst q2;subst q3;have hg:dK K.H π k ob1.g=ob.g+(if ob1.g=0 then 0 else 1):=by simp only[dK,g3,pJ.2 hob]
   refine⟨ob,hob,by simp only[aQ,hg];omega,fun e=>?_⟩;have e0:ob1.g=0:=by
    simp only[aQ,hg]at e;by_cases h0:ob1.g=0
    .exact h0
    .rw [if_neg h0]at e;omega
   obtain⟨h4,h5⟩:=h3 (by simp only[aQ];exact e0);rw[g5,h4,q4];exact⟨rfl,(dO _ _ _ ob).trans (h5.trans (dO _ _ _ ob1))⟩
  .omega
 own:=by
  intro b hb h;rcases Du hnd h with⟨o,_,_,h⟩|h
  .exact h.own
  .obtain ⟨o,_,h⟩:=pK (E.own b hb h);exact h.own
 cells:=by intro b hb ho off;exact E.cells b hb (fun h=>let ⟨_,_,h⟩:=pK h;ho h.own) off
 exact:=by
  intro b hb ho ht;refine E.exact b hb (fun h=>let ⟨_,_,h⟩:=pK h;ho h.own) ?_;rintro(h|⟨o,_,h⟩|⟨h,_⟩|⟨i,x,h,_⟩)
  .omega
  .exact ho h.own
  .simp [dA]at h
  .omega
end
section
variable {C:Ctx}{K K1:Kx}{T:Nat->Nat->Prop}{π new gone:List Nat}{ls:List fB}{n:Nat}{τ:Nat->Nat}
def NK(hI:Inv C K T)(hnd:π.Nodup)(hlive:∀ o∈π,∃ ob,K.H[o]?=some (some ob))(hn:n+1<dA)(hls:ls.length=n+1)
 (hI1:Inv C K1 (Tc K T π ls))(E:Evo (Tc K T π ls) π.length (jy K π (n+1)) K1){used:List Nat}
 (hu:∀ t∈used,(dP ls t).isSome=true)(hg:∀ t∈used,∀ o∈dN ls t,o∈gone) :
 Ren (aY K.H π new K1.H) (bW ls) K1 (sO K π new K1 (xP (aY K.H π new K1.H) (bW ls) K.H π gone new K1.H)) (Tc K T π ls) T (fun t=>t∈used) where
 w:=rfl
 h:=by
  intro o g o' g' h;unfold aY at h;split at h
  .rename_i ob hob;obtain⟨ho,hog⟩:=cZ.1 hob;split at h
   .rename_i hlt;cases hp:π[o]? with
    | none=>rw[hp]at h;cases h
    | some x=>
     rw[hp]at h;simp only[axM,axH,axJ]at h;obtain⟨rfl,rfl⟩:=h;obtain⟨obx,ar5⟩:=hlive x (axT hp);have hxl:x<K.H.length:=(axK.1 ar5).1;refine⟨by simp only[sO];rw[Dt];omega,ob,hob,fun ob' h=>?_⟩;rcases pO hnd h with⟨_,_,g3,_⟩|⟨k,ob1,_,_,g3,g4,rfl,g5⟩|⟨j,k,ob1,g,_⟩
     .exact absurd (axT hp) g3
     .have e1:=axK.1 g3;have e2:=axK.1 hp;have:k=o:=(azn hnd).1 (e1.2.trans e2.2.symm);subst this;rw[ho]at g4;simp only[axH]at g4;subst g4;simp only[aQ,hog,axO,true_and];exact fun _=>⟨g5,dO _ _ 0 ob⟩
     .omega
   .rename_i hlt;cases hi:idxOf new o K.H.length with
    | none=>rw[hi]at h;cases h
    | some k=>
     rw[hi]at h;simp only[axM,axH,axJ]at h;obtain⟨rfl,rfl⟩:=h;obtain⟨h1,h2⟩:=vZ hi;have h3:=(axK.1 h2).1;refine⟨by simp only[sO];rw[Dt];omega,ob,hob,fun ob' h=>?_⟩;rcases pO hnd h with⟨q1,_⟩|⟨k,ob1,q1,_⟩|⟨j,k',ob1,g,g3,g4,rfl,g5⟩
     .omega
     .omega
     .have:j=k-K.H.length:=by omega
      subst this;rw[h2]at g3;simp only[axH]at g3;subst g3;rw[ho]at g4;simp only[axH]at g4;subst g4;exact⟨ayF _,fun _=>⟨g5,dO _ _ 0 ob⟩⟩
  .cases h
 t:=by
  intro t ht b hb;obtain⟨h1,h2,h3⟩:=hb;have hs:=hu t ht;refine⟨?_,fun hO=>?_,h3⟩
  .rcases h1 with h|⟨o,_,h⟩|⟨h,_⟩|⟨i,x,h,hx,hb⟩
   .exact hI.mono _ _ (hI.new b h)
   .exact hI.mono _ _ (hI.own b h.own).2
   .subst h;have:ls[dA-1]?=none:=ax0 (by rw[hls];omega);rw[dP,if_neg (by simp[dA]),this]at hs;cases hs
   .subst h;simp only[dP,Nat.add_one_ne_zero,if_false,Nat.add_sub_cancel,hx]at hs;obtain⟨s,hs⟩:=ayn.1 hs;have e:bW ls (i+1)=s:=by simp[bW,dP,hx,hs]
    rw[e];rcases hb with⟨o,_,h⟩|⟨t',ht',h⟩
    .exact hI.mono _ _ (hI.own b h.own).2
    .exact uh hI.mono hs t' ht' b h.1
  .rcases Du hnd hO with⟨o',g1,g2,g3⟩|h
   .rcases h1 with h|⟨o,ho,h⟩|⟨h,_⟩|⟨i,x,h,hx,hb⟩
    .exact absurd (hI.own b g3.own).1 (by omega)
    .exact g1 (by rw[oQ.inj hI g3 h];exact ho)
    .subst h;have:ls[dA-1]?=none:=ax0 (by rw[hls];omega);rw[dP,if_neg (by simp[dA]),this]at hs;cases hs
    .subst h;rcases hb with⟨o,ho,h⟩|⟨t',ht',h⟩
     .refine g2 (hg _ ht o' ?_);rw[oQ.inj hI g3 h];simp only[dN,Nat.add_one_ne_zero,if_false,Nat.add_sub_cancel,hx];exact ho
     .exact h.2.1 g3.own
   .exact h2 h
def Y5(hI:Inv C K T)(hnd:π.Nodup)(hlive:∀ o∈π,∃ ob,K.H[o]?=some (some ob))(hn:n+1<dA)(hls:ls.length=n+1)
 (hI1:Inv C K1 (Tc K T π ls))(E:Evo (Tc K T π ls) π.length (jy K π (n+1)) K1){used:List Nat}
 (hu:∀ t∈used,(dP ls t).isSome=true)(hg:∀ t∈used,∀ o∈dN ls t,o∈gone)(hnn:new.Nodup)(hnew:∀ k∈new,π.length<=k)
 (hu1:∀ t∈dD ((List.range π.length).map (aP K1.H)),t∈used)(hu2:∀ t∈dD (new.map (aP K1.H)),t∈used) :
 Inv C (sO K π new K1 (xP (aY K.H π new K1.H) (bW ls) K.H π gone new K1.H)) T:=by
 have hE:=NJ (new:=new) (gone:=gone) (ρ:=aY K.H π new K1.H) (τ:=bW ls) hI hnd hlive hn E;have hR:=NK (new:=new) hI hnd hlive hn hls hI1 E hu hg
 -- a block of K that stays: untouched
 have acX:∀ {o b:Nat},oQ K o b->o∉π->¬ Own (jy K π (n+1)) b/\¬ Tc K T π ls 0 b:=by
  intro o b h ho;refine⟨fun h'=>?_,?_⟩
  .obtain ⟨o',h1,h2⟩:=pK h';exact ho (by rw[oQ.inj hI h h2];exact h1)
  .rintro (h' | ⟨o',h1,h2⟩|⟨h',_⟩|⟨i,x,h',_⟩)
   .exact absurd (hI.own b h.own).1 (by omega)
   .exact ho (by rw[oQ.inj hI h h2];exact h1)
   .simp [dA]at h'
   .omega
 have hsep:∀ {o b:Nat},oQ K o b->o∉π->¬ Own K1 b:=fun h ho h'=>(acX h ho).1 (E.own _ (hI.own _ h.own).1 h');constructor
 .-- obj
  intro o ob2 h;rcases pO hnd h with⟨_,g2,g3,g4,g5⟩|⟨k,ob1,_,_,g3,g4,rfl,g5⟩|⟨j,k,ob1,_,g3,g4,rfl,g5⟩
  .refine gB.evo hE (axO _) g5 (fun hr=>?_) (hI.obj o ob2 g4);have hb:oQ K o (K.μ o).blk:=⟨ob2,g4,hr,rfl⟩;obtain⟨h1,h2⟩:=acX hb g3;exact E.exact _ (hI.own _ hb.own).1 h1 h2
  .refine gB.ren hR (fun t ht=>hu1 t (qw (ayd.2 ⟨k,?_,pJ.2 g4⟩) t ht)) g5 (hI1.obj k ob1 g4);exact ayh.2 (axK.1 g3).1
  .exact gB.ren hR (fun t ht=>hu2 t (qw (ayd.2 ⟨k,axT g3,pJ.2 g4⟩) t ht)) g5 (hI1.obj k ob1 g4)
 .-- inj
  intro o o' ob ob' h h' hr hr' hb;rcases pO hnd h with⟨_,g2,g3,g4,g5⟩|⟨k,ob1,_,_,g3,g4,rfl,g5⟩|⟨j,k,ob1,gj,g3,g4,rfl,g5⟩<;>
  rcases pO hnd h' with⟨_,g2',g3',g4',g5'⟩|⟨k',EN,_,_,g3',g4',rfl,g5'⟩|⟨j',k',EN,gj',g3',g4',rfl,g5'⟩<;>
  rw[g5]at hr hb<;>rw[g5']at hr' hb
  .exact hI.inj o o' ob ob' g4 g4' hr hr' hb
  .exact absurd ⟨k',EN,g4',(Real.same (dO _ _ _ _)).1 hr',rfl⟩ (hsep ⟨ob,g4,hr,hb⟩ g3)
  .exact absurd ⟨k',EN,g4',(Real.same (dO _ _ _ _)).1 hr',rfl⟩ (hsep ⟨ob,g4,hr,hb⟩ g3)
  .exact absurd ⟨k,ob1,g4,(Real.same (dO _ _ _ _)).1 hr,rfl⟩ (hsep ⟨ob',g4',hr',hb.symm⟩ g3')
  .have:=hI1.inj k k' ob1 EN g4 g4' ((Real.same (dO _ _ _ _)).1 hr) ((Real.same (dO _ _ _ _)).1 hr') hb;subst this;rw[g3]at g3';exact axN g3'
  .have:=hI1.inj k k' ob1 EN g4 g4' ((Real.same (dO _ _ _ _)).1 hr) ((Real.same (dO _ _ _ _)).1 hr') hb;subst this;have h1:=(axK.1 g3).1;have h2:=hnew k (axT g3');omega
  .exact absurd ⟨k,ob1,g4,(Real.same (dO _ _ _ _)).1 hr,rfl⟩ (hsep ⟨ob',g4',hr',hb.symm⟩ g3')
  .have:=hI1.inj k k' ob1 EN g4 g4' ((Real.same (dO _ _ _ _)).1 hr) ((Real.same (dO _ _ _ _)).1 hr') hb;subst this;have h1:=(axK.1 g3').1;have h2:=hnew k (axT g3);omega
  .have:=hI1.inj k k' ob1 EN g4 g4' ((Real.same (dO _ _ _ _)).1 hr) ((Real.same (dO _ _ _ _)).1 hr') hb;subst this;have e1:=axK.1 g3;have e2:=axK.1 g3';have:j=j':=(azn hnn).1 (e1.2.trans e2.2.symm);omega
 .-- own
  intro b h;rcases Du hnd h with⟨o,_,_,h⟩|h
  .exact ⟨ayw (hI.own b h.own).1 E.size,(hI.own b h.own).2⟩
  .obtain ⟨h1,h2⟩:=hI1.own b h;refine⟨h1,?_⟩;rcases h2 with h|⟨o,_,h⟩|⟨h,_⟩|⟨i,x,h,_⟩
   .exact hI.new b h
   .exact (hI.own b h.own).2
   .simp [dA]at h
   .omega
 .exact fun b hb=>hI.new b (ayO E.size hb)
 .exact hI.mono
 .intro g p hg;obtain⟨h1,h2,h3⟩:=hI.glob g p hg;have h4:=NT.evo hE h2;exact⟨h1,h4.1,jM (fun b hb=>NT.evo hE hb) p _ _ (fun j u hu=>h4.2 _ _ hu) h3⟩
end
def Gives(C:Ctx)(T:Nat->Nat->Prop)(K:Kx)(x:AV)(H':Heap):Ending->World->Prop
 | .returned v,w'=>∃ μ',Inv C ⟨μ',H',w'⟩ T/\Evo T K.H.length K ⟨μ',H',w'⟩/\aF ⟨μ',H',w'⟩ T x v
 | _,_=>False
def CX(C:Ctx)(cf:Cf):Prop:=∀ f args H x H',cf f args H=some (x,H')->∀ K T (vs:Array Value),K.H=H->Inv C K T->fD K T args vs.toList ->
 Calls C.P f vs K.w (Gives C T K x H')
def iT:∀ {a b:List Nat},disjoint a b=true ↔ ∀ o∈a,o∉b
 | [],b=>by simp[disjoint]
 | x::r,b=>by simp[disjoint,iT (a:=r)]
def nY{C:Ctx}{f:Nat}{H:Heap}:∀ {args:List AV} {i:Nat} {as:List AV} {xs:List fB},aH C f H i args=some (as,xs)->xs.length=as.length
 | [],i,as,xs,h=>by
  simp only[aH,axH,axJ]at h;obtain⟨rfl,rfl⟩:=h;rfl
 | a::r,i,as,xs,h=>by
  simp only[aH]at h;split at h
  .rename_i h2;simp only[axH,axJ]at h;obtain⟨rfl,rfl⟩:=h;simp[nY h2]
  .cases h
def UL{C:Ctx}{body:Cf}(hb:CX C body):CX C (ku C body):=by
 intro f args H x H' h K T vs hK hI ha;subst hK;unfold ku at h;split at h
 .cases h
 .rename_i as xs hl;simp only at h;obtain⟨hnd,hlive⟩:=vC K.H aA (aC as) [] List.nodup_nil (by simp);generalize reach K.H aA (aC as) []=π at h hnd hlive;split at h
  .rename_i hc;simp only[ax4,decide_eq_true_eq,ax5]at hc;obtain⟨hdis,hn⟩:=hc;have hlen:=nY hl;split at h
   .cases h
   .rename_i v H1 hbody;generalize hls:xs++[⟨[],au (π.map (aP K.H))⟩]=ls at h;have air:ls.length=as.length+1:=by rw[<- hls];simp[hlen]
    have hother:ls[as.length]?=some ⟨[],au (π.map (aP K.H))⟩:=by rw[<- hls,<- hlen];simp
    have hI0:=Vb hI hnd hn hother;have hargs:fD (jy K π (as.length+1)) (Tc K T π ls) (coerce C (bU (bV K.H π) (fun t=>t) as) (aI C f)) vs.toList:=by refine Jm (Ee hI ha hl (fun j y hy=>?_) (fun y hy=>iT.1 (hdis y hy)));rw[<- hls,ayg];rw[axL (axK.1 hy).1];exact hy
    have CZ:=hb f _ _ v H1 hbody (jy K π (as.length+1)) (Tc K T π ls) vs rfl hI0 hargs;refine Calls.mono CZ fun e w' he=>?_;cases e with
    | panicked c=>exact he
    | outgrown=>exact he
    | returned u=>
     obtain⟨μ1,hI1,E,hv⟩:=he;have hE:Evo (Tc K T π ls) π.length (jy K π (as.length+1)) ⟨μ1,H1,w'⟩:=by
      have:(jy K π (as.length+1)).H.length=π.length:=by simp[jy]
      rw[this]at E;exact E
     simp only[wrap]at h;obtain⟨hnd1,_⟩:=vC H1 aA (List.range π.length++ids v) [] List.nodup_nil (by simp);generalize reach H1 aA (List.range π.length++ids v) []=Kr at h hnd1;split at h
     .rename_i hu;simp only[ax5]at hu;simp only[axH,axJ]at h;obtain⟨rfl,rfl⟩:=h;have hsub:∀ t∈(uf v++dD ((List.range π.length).map (aP H1))++dD ((Kr.filter fun o=>π.length<=o).map (aP H1))),t∈(tags v++au ((List.range π.length).map (aP H1))++au ((Kr.filter fun o=>π.length<=o).map (aP H1))):=by intro t ht;simp only[axV]at ht ⊢;exact ht.imp (fun h=>h.imp Df qx) qx
      have hu':=fun t ht=>hu t (hsub t ht);have hg:∀ t∈(uf v++dD ((List.range π.length).map (aP H1))++dD ((Kr.filter fun o=>π.length<=o).map (aP H1))),∀ o∈dN ls t,
       o∈((tags v++au ((List.range π.length).map (aP H1))++au ((Kr.filter fun o=>π.length<=o).map (aP H1))).flatMap (dN ls)).filter fun o=>((uf v++dD ((List.range π.length).map (aP H1))++dD ((Kr.filter fun o=>π.length<=o).map (aP H1))).flatMap (dN ls)).contains o :=
       fun t ht o ho=>ay5.2 ⟨ayX.2 ⟨t,hsub t ht,ho⟩,azB.2 (ayX.2 ⟨t,ht,ho⟩)⟩
      have hR:=NK (new:=Kr.filter fun o=>π.length<=o) hI hnd hlive hn air hI1 hE hu' hg;have hI2:=Y5 (new:=Kr.filter fun o=>π.length<=o) hI hnd hlive hn air hI1 hE hu' hg (hnd1.filter _) (fun k hk=>by simpa using(ay5.1 hk).2)
       (fun t ht=>by simp only[axV];exact .inl (.inr ht)) (fun t ht=>by simp only[axV];exact .inr ht)
      have hE2:=NJ (new:=Kr.filter fun o=>π.length<=o) (gone:=((tags v++au ((List.range π.length).map (aP H1))++au ((Kr.filter fun o=>π.length<=o).map (aP H1))).flatMap (dN ls)).filter fun o=>((uf v++dD ((List.range π.length).map (aP H1))++dD ((Kr.filter fun o=>π.length<=o).map (aP H1))).flatMap (dN ls)).contains o)
       (ρ:=aY K.H π (Kr.filter fun o=>π.length<=o) H1) (τ:=bW ls) hI hnd hlive hn hE
      exact⟨_,hI2,hE2,aF.abq hR (fun t ht=>by simp only[axV];exact .inl (.inl ht)) hv⟩
     .cases h
  .cases h
section
variable {C:Ctx}{cf:Cf}
def hd:AV->Option Nat
 | .ptr o _ _ _=>some o
 | .sl o _ _ _=>some o
 | .map o _=>some o
 | _=>none
def Y6{a:AV}{o:Nat}(h:hd a=some o):o∈ids a:=by
 cases a<;>simp only[hd,reduceCtorEq,axH]at h<;>simp[ids,h]
def jd{H H2:Heap}{o:Nat}(h:H2[o]?=H[o]?)(g:Nat):live H2 o g=live H o g:=by
 unfold live;rw[h]
def GV(v:Value):ids (kD v)=[]:=by
 unfold kD;split<;>simp[ids,aC]
def oD:∀ {l:List AV},aC l=[] ↔ ∀ a∈l,ids a=[]
 | []=>by simp[aC]
 | a::r=>by simp[aC,oD (l:=r)]
def zQ{e:Nat}:∀ {n:Nat} {l:List AV},aC l=[]->aC (chunks e n l)=[]
 | 0,l,h=>rfl
 | n+1,l,h=>by
  have h':=oD.1 h;simp only[chunks,aC,ids,aza];exact⟨oD.2 fun a ha=>h' a (List.mem_of_mem_take ha),zQ (oD.2 fun a ha=>h' a (List.mem_of_mem_drop ha))⟩
def Vd{t:TypeId}{l:List AV}{p:AV}(hl:aC l=[])(h:nV C t l=some p):ids p=[]:=by
 unfold nV at h;split at h
 .split at h
  .simp only[ax7]at h;obtain⟨_,_,rfl⟩:=h;rfl
  .simp only[ax7]at h;obtain⟨_,_,rfl⟩:=h;rfl
  .split at h
   .simp only[axH]at h;subst h;exact zQ hl
   .cases h
  .split at h
   .simp only[axH]at h;subst h;exact zQ hl
   .cases h
  .simp only[axH]at h;subst h;exact hl
 .simp only[axH]at h;subst h;exact hl
def Jp(t:TypeId)(v:Value):ids (Gi C t v)=[]:=by
 unfold Gi;split
 .rename_i cs;split
  .split
   .rename_i p hp;have:aC (cs.toList.map kD)=[]:=oD.2 fun a ha=>by
     obtain⟨v,_,rfl⟩:=ayd.1 ha;exact GV v
    simp only[ids];exact Vd this hp
   .rfl
  .rfl
 .exact GV v
def Jq{fr:Frame}{t:TypeId}{x:Operand}{o:Nat}(h:o∈ids (gu C fr t x)):o∈ids (aJ C fr x):=by
 cases x<;>simp only[gu]at h<;>try exact h
 rw[Jp]at h;cases h
def wu{fr:Frame}{o:Oper}{x:Operand}(hx:x∈o.op.operands){y:Nat}(hy:y∈ids (aJ C fr x)):y∈aC (jr C fr o) :=
 vF (ayd.2 ⟨x,by simpa using hx,rfl⟩) y hy
-- quiet operations
def Eh{H H2:Heap}{t:TypeId}{x:AV}(h:∀ o,hd x=some o->H2[o]?=H[o]?):isNil C H2 t x=isNil C H t x:=by
 unfold isNil;split<;>first|rfl|(rw[jd (h _ rfl)])
def Ve{H H2:Heap}{t:TypeId}{x y:AV}{xo yo:Operand}(h1:∀ o,hd x=some o->H2[o]?=H[o]?)(h2:∀ o,hd y=some o->H2[o]?=H[o]?):eqV C H2 t x y xo yo=eqV C H t x y xo yo:=by
 unfold eqV;rw[Eh h1,Eh h2]
def QB{H H2:Heap}{op:BinOp}{t:TypeId}{x y:AV}{xo yo:Operand}(h1:∀ o,hd x=some o->H2[o]?=H[o]?)(h2:∀ o,hd y=some o->H2[o]?=H[o]?):Iq C H2 op t x y xo yo=Iq C H op t x y xo yo:=by
 unfold Iq;rw[Ve h1 h2]
def Lh{H H2:Heap}{x:AV}(h:∀ o,hd x=some o->H2[o]?=H[o]?):uF H2 x=uF H x:=by
 unfold uF;split<;>first|rfl|(rw[jd (h _ rfl)])
def NM{H H2:Heap}{t:TypeId}{x:AV}(h:∀ o,hd x=some o->H2[o]?=H[o]?):wH C H2 t x=wH C H t x:=by
 unfold wH;split
 .rfl
 .split<;>first|rfl|(rw[jd (h _ rfl)])
def Lj{H H2:Heap}{t:TypeId}{x:AV}{lo hi:Option AV}(h:∀ o,hd x=some o->H2[o]?=H[o]?):gY C H2 t x lo hi=gY C H t x lo hi:=by
 unfold gY;split<;>first|rfl|(rw[jd (h _ rfl)])
def Dv{H H2:Heap}{t:TypeId}{x:AV}{n:Nat}(h:∀ o,hd x=some o->H2[o]?=H[o]?):bF C H2 t x n=bF C H t x n:=by
 unfold bF;split
 .rfl
 .split
  .rfl
  .split<;>first|rfl|(rw[jd (h _ rfl)])
def Dw{H H2:Heap}{t:TypeId}{x ix:AV}(h:∀ o,hd x=some o->H2[o]?=H[o]?):mM C H2 t x ix=mM C H t x ix:=by
 unfold mM;split
 .split<;>first|rfl|(rw[jd (h _ rfl)])
 .rfl
def IB{H H2:Heap}{t:TypeId}{x k:AV}{ok:Bool}(h:∀ o,hd x=some o->H2[o]?=H[o]?):lY C H2 t x k ok=lY C H t x k ok:=by
 unfold lY;cases x<;>first|rfl|(rename_i o g;simp only[jd (h o rfl)])
def QC{H H2:Heap}{t:TypeId}{x:AV}(h:∀ o,hd x=some o->H2[o]?=H[o]?):lenV C H2 t x=lenV C H t x:=by
 unfold lenV;split<;>first|rfl|(rw[jd (h _ rfl)])
def QD{H H2:Heap}{t:TypeId}{x:AV}(h:∀ o,hd x=some o->H2[o]?=H[o]?):Nl C H2 t x=Nl C H t x:=by
 unfold Nl;split<;>first|rfl|(rw[jd (h _ rfl)])
def sQ{m m':Option AV}{H H2:Heap}{v:AV}{H':Heap}(e:m'=m)(h:(m.map fun v=>(v,H))=some (v,H')):(m'.map fun v=>(v,H2))=some (v,H2):=by
 subst e;cases m' with
 | none=>cases h
 | some y=>
  simp only[axM,axH,axJ]at h;rw[h.1];rfl
def Y7{H H2 H':Heap}{s d:TypeId}{x v:AV}(hx:∀ o,hd x=some o->H2[o]?=H[o]?)(h:wI C H s d x=some (v,H')):wI C H2 s d x=some (v,H2):=by
 unfold wI at h ⊢;rw[Lh hx];by_cases hs:okT C s=false
 .rw [if_pos hs]at h;cases h
 rw[if_neg hs]at h ⊢;generalize und C d=D at h ⊢;generalize uF H x=R at h ⊢;generalize und C s=S at h ⊢;have:∀ z:AV,some (z,H)=some (v,H')->some (z,H2)=some (v,H2):=fun z hz=>by
  simp only[axH,axJ]at hz;rw[hz.1]
 repeat' (split at h)
 all_goals first
  | (cases h;done)
  | exact this _ h
  | (rename_i hc;rw[if_pos hc];exact this _ h)
  | (rename_i hc _ _;rw[if_pos hc];exact this _ h)
  | (rename_i hc _;rw[if_pos hc];exact this _ h)
theorem Y8 {fr:Frame} {H H' H2:Heap} {o:Oper} {v:AV} (hq:jY C o = true) (hf:nS C o = false) (h:step C cf fr H o = some (v,H')) (hx:∀ x ∈ aC (jr C fr o),H2[x]? = H[x]?) :
    step C cf fr H2 o = some (v,H2):=by
  have hO:∀ y,y ∈ o.op.operands→∀ x,hd (aJ C fr y) = some x→H2[x]? = H[x]?:=fun y hy x h=>hx x (wu hy (Y6 h))
  have hT:∀ t y,y ∈ o.op.operands→∀ x,hd (gu C fr t y) = some x→H2[x]? = H[x]?:=fun t y hy x h=>hx x (wu hy (Jq (Y6 h)))
  obtain ⟨dst,op,type,pos,after,guard⟩:=o
  cases op <;> simp only [jY] at hq <;> try exact absurd hq (by simpa using hf)
  all_goals simp only [Op.operands] at hO hT
  all_goals simp only [step] at h ⊢
  case buildSlice t n ps =>
    cases hu:und C t <;> rw [hu] at hq <;> simp only [axZ] at hq
    case slice e =>
      unfold bT at h ⊢
      simp only [hu,hq,if_true] at h ⊢
      split at h
      · rename_i hc
        rw [if_pos hc]
        split at h
        · cases h
        · split at h
          · rename_i hl
            rw [if_pos hl]
            exact sQ rfl h
          · cases h
      · cases h
  case load t x=>exact sQ (NM (hO x (by simp))) h
  case nilCheck x =>
    split at h
    · rename_i o i f g he
      rw [jd (hO x (by simp) o (by rw [he];rfl))]
      split at h
      · simp only [axH,axJ] at h;rw [h.1]
      · cases h
    · simp only [axH,axJ] at h;rw [h.1]
    · cases h
  case binOp op t x y ne=>exact sQ (QB (hT t x (by simp)) (hT t y (by simp))) h
  case convert s d x=>exact Y7 (hT s x (by simp)) h
  case slice t x lo hi mx =>
    split at h
    · rename_i hm
      rw [if_pos hm]
      exact sQ (Lj (hT t x (by simp))) h
    · cases h
  case fieldAddr s x n=>exact sQ (Dv (hO x (by simp))) h
  case indexAddr t x ix=>exact sQ (Dw (hO x (by simp))) h
  case lookup t x k ok=>exact sQ (IB (hO x (by simp))) h
  case call c =>
    cases hc:c.callee with
    | builtin b =>
      rw [hc] at hq
      have hA:∀ (l:List Operand) (ts:List TypeId),(∀ y ∈ l,y ∈ c.args)→∀ a ∈ fA C fr l ts,∀ x,hd a = some x→H2[x]? = H[x]?:=by
        intro l
        induction l with
        | nil=>intro ts _ a ha;simp [fA] at ha
        | cons y r ih =>
          intro ts hl a ha x hx'
          simp only [fA,ax2] at ha
          have hy:y ∈ (Call.operands c):=by
            simp only [Call.operands,hc]
            exact az2.2 (.inr (hl y (by simp)))
          rcases ha with rfl | ha
          · cases ts with
            | nil=>exact hO y hy x hx'
            | cons t ts=>exact hT t y hy x hx'
          · exact ih _ (fun z hz=>hl z (by simp [hz])) a ha x hx'
      have hA':=hA c.args.toList c.argTypes.toList (fun y hy=>ay7.1 hy)
      simp only [uX,hc] at h ⊢
      generalize fA C fr c.args.toList c.argTypes.toList = args at h hA' ⊢
      cases b <;> simp only [axZ] at hq
      all_goals
        cases hts:c.argTypes.toList with
        | nil=>rw [hts] at h;simp [kR] at h
        | cons t ts =>
          rw [hts] at h
          cases args with
          | nil=>simp [kR] at h
          | cons a r =>
            simp only [kR] at h ⊢
            first
            | (rw [QC (H:=H) (hA' a (by simp))]
               cases hm:lenV C H t a with
               | none=>rw [hm] at h;cases h
               | some z =>
                 rw [hm] at h
                 simp only [axM,axH,axJ] at h
                 rw [← h.1];rfl)
            | (rw [QD (H:=H) (hA' a (by simp))]
               cases hm:Nl C H t a with
               | none=>rw [hm] at h;cases h
               | some z =>
                 rw [hm] at h
                 simp only [axM,axH,axJ] at h
                 rw [← h.1];rfl)
    | value x=>rw [hc] at hq;simp at hq
    | invoke r n=>rw [hc] at hq;simp at hq
-- what is turned
def Only(l:List Nat)(H H':Heap):Prop:=H.length<=H'.length/\∀ x,x<H.length->x∉l->H'[x]?=H[x]?
def Only.refl(l:List Nat)(H:Heap):Only l H H:=⟨axO _,fun _ _ _=>rfl⟩
def Only.trans{l:List Nat}{A B D:Heap}(h:Only l A B)(k:Only l B D):Only l A D :=
 ⟨ayO h.1 k.1,fun x hx hl=>(k.2 x (ayw hx h.1) hl).trans (h.2 x hx hl)⟩
def Only.push(l:List Nat)(H:Heap)(z:List (Option Obj)):Only l H (H++z) :=
 ⟨by simp,fun x hx _=>by rw[axL hx]⟩
def Only.upd{l:List Nat}{H:Heap}{o:Nat}(h:o∈l)(z:Option Obj):Only l H (upd H o z):=by
 refine⟨by simp[AM.upd],fun x _ hl=>?_⟩;have:o≠x:=fun e=>hl (e ▸ h);simp[AM.upd,axU this]
def Only.mono{l l':List Nat}{H H':Heap}(h:Only l H H')(hl:∀ x∈l,x∈l'):Only l' H H':=⟨h.1,fun x hx hn=>h.2 x hx fun hx'=>hn (hl x hx')⟩
def Bl{H H':Heap}{a b:AV}(h:nX H a=some (b,H')):Only (ids a) H H':=by
 unfold nX at h;split at h
 .split at h
  .split at h
   .cases h
   .split at h
    .simp only[axH,axJ]at h;obtain⟨_,rfl⟩:=h;exact Only.upd (by simp[ids]) _
    .cases h
  .cases h
 .simp only[axH,axJ]at h;obtain⟨_,rfl⟩:=h;exact Only.refl _ _
def Bo:∀ {l l':List AV} {H H':Heap},rF H l=some (l',H')->Only (aC l) H H'
 | [],l',H,H',h=>by
  simp only[rF,axH,axJ]at h;obtain⟨_,rfl⟩:=h;exact Only.refl _ _
 | a::r,l',H,H',h=>by
  simp only[rF]at h;split at h
  .rename_i b H1 h1;split at h
   .rename_i r' H2 h2;simp only[axH,axJ]at h;obtain⟨_,rfl⟩:=h;exact((Bl h1).mono fun x hx=>by simp[aC,hx]).trans ((Bo h2).mono fun x hx=>by simp[aC,hx])
   .cases h
  .cases h
def Bq{H H':Heap}{a b:AV}(h:rE H a=some (b,H')):Only (ids a) H H':=by
 unfold rE at h;split at h
 .split at h
  .rename_i l' H1 h1;simp only[axH,axJ]at h;obtain⟨_,rfl⟩:=h;exact(Bo h1).mono fun x hx=>by simpa[ids]using hx
  .cases h
 .exact Bl h
def zh:∀ {l l':List AV} {H H':Heap},lU H l=some (l',H')->Only (aC l) H H'
 | [],l',H,H',h=>by
  simp only[lU,axH,axJ]at h;obtain⟨_,rfl⟩:=h;exact Only.refl _ _
 | a::r,l',H,H',h=>by
  simp only[lU]at h;split at h
  .rename_i b H1 h1;split at h
   .rename_i r' H2 h2;simp only[axH,axJ]at h;obtain⟨_,rfl⟩:=h;exact((Bq h1).mono fun x hx=>by simp[aC,hx]).trans ((zh h2).mono fun x hx=>by simp[aC,hx])
   .cases h
  .cases h
def NP{H H':Heap}{t:TypeId}{a v:AV}(h:zG C H t a v=some H'):Only (ids a++ids v) H H':=by
 unfold zG at h;split at h
 .rename_i o i f g;have ho:∀ (H:Heap) (z:Option Obj),Only (ids (.ptr o i f g)++ids v) H (upd H o z):=fun H z=>Only.upd (by simp[ids]) z;split at h
  .cases h
  .rename_i ob _;split at h
   .cases hp:AU C ob t i f v with
    | none=>rw[hp]at h;cases h
    | some p=>
     rw[hp]at h;simp only[axM,axH]at h;subst h;exact ho _ _
   .split at h
    .cases h
    .rename_i v2 H2 h2;have h3:=(Bq h2).mono (l':=ids (.ptr o i f g)++ids v) fun x hx=>by simp[hx]
     split at h
     .cases h
     .rename_i ob2 _;split at h
      .split at h
       .cases h
       .split at h
        .cases h
        .cases hp:AU C ob2 t i f v2 with
         | none=>rw[hp]at h;cases h
         | some p=>
          rw[hp]at h;simp only[axM,axH]at h;subst h;exact h3.trans (ho _ _)
      .cases h
 .cases h
def QE{H H':Heap}{t:TypeId}{s x v:AV}(h:copyV C H t s x=some (v,H')):Only (ids s) H H':=by
 unfold copyV at h;split at h
 .split at h
  .split at h
   .split at h
    .split at h
     .simp only[axH,axJ]at h;obtain⟨_,rfl⟩:=h;exact Only.upd (by simp[ids]) _
     .cases h
    .cases h
   .cases h
  .cases h
 .cases h
theorem Ll {H H':Heap} {t:TypeId} {s x v:AV} (h:bG C H t s x = some (v,H')):Only (ids s) H H':=by
  unfold bG at h
  repeat' (split at h)
  all_goals first
    | (cases h;done)
    | (simp only [axH,axJ] at h
       obtain ⟨_,rfl⟩:=h
       first
       | exact Only.push _ _ _
       | exact Only.refl _ _
       | exact Only.upd (by simp [ids]) _)
def QF(t:TypeId):ids (bD C t)=[]:=by
 unfold bD;split
 .exact Jp _ _
 .rfl
def Bv{n:Nat}{S:List Nat}:∀ {parts:List (Nat×AV)} {l l':List AV},iY n l parts=some l'->(∀ a∈l,∀ x∈ids a,x∈S)->(∀ p∈parts,∀ x∈ids p.2,x∈S)->∀ a∈l',∀ x∈ids a,x∈S
 | [],l,l',h,hl,_=>by
  simp only[iY,axH]at h;subst h;exact hl
 | (i,v)::r,l,l',h,hl,hp=>by
  simp only[iY]at h;split at h
  .refine Bv h (fun a ha x hx=>?_) fun p hp'=>hp p (by simp[hp']);rcases List.mem_or_eq_of_mem_set ha with ha|rfl
   .exact hl a ha x hx
   .exact hp (i,a) (by simp) x hx
  .cases h
def NQ{S:List Nat}:∀ {l:List AV},(∀ a∈l,∀ x∈ids a,x∈S)->∀ x∈aC l,x∈S
 | [],_,x,hx=>by simp[aC]at hx
 | a::r,h,x,hx=>by
  simp only[aC,axV]at hx;rcases hx with hx|hx
  .exact h a (by simp) x hx
  .exact NQ (fun b hb=>h b (by simp[hb])) x hx
def Dx{H H':Heap}{t:TypeId}{n:Nat}{parts:List (Nat×AV)}{v:AV}{S:List Nat}(hp:∀ p∈parts,∀ x∈ids p.2,x∈S)(h:bT C H t n parts=some (v,H')):Only S H H':=by
 unfold bT at h;split at h
 .rename_i e _;split at h
  .split at h
   .cases h
   .rename_i l hl;have jQ:∀ x∈aC l,x∈S:=by
     have h1:=Bv (S:=S) hl (fun a ha x hx=>by
      have:=(List.mem_replicate.1 ha).2;subst this;rw[QF]at hx;cases hx) hp
     exact NQ h1
    split at h
    .simp only[ax7,axJ]at h;obtain⟨_,_,_,rfl⟩:=h;exact Only.refl _ _
    .split at h
     .cases h
     .split at h
      .cases h
      .rename_i l2 H2 h2;have h3:=(zh h2).mono jQ;split at h
       .simp only[ax7,axJ]at h;obtain⟨_,_,_,rfl⟩:=h;exact h3
       .simp only[ax7,axJ]at h;obtain⟨_,_,_,rfl⟩:=h;exact h3.trans (Only.push _ _ _)
  .cases h
 .cases h
def Lm(C:Ctx)(cf:Cf):Prop:=∀ f args H v H',cf f args H=some (v,H')->Only (gK C f args H) H H'
def Bz:∀ {l:List Nat} {B:Heap} {x:Nat},x∉l->(strike l B)[x]?=B[x]?
 | [],_,_,_=>rfl
 | o::r,B,x,h=>by
  simp only[ax2,not_or]at h;simp only[strike];rw[Bz h.2,upd,axU (ax6 h.1)]
def zi{ρ:Nat->Nat->Option (Nat×Nat)}{τ:Nat->Nat}{H:Heap}{π:List Nat}{H1:Heap}:∀ {l:List Nat} {k:Nat} {B:Heap} {x:Nat},x∉l->(bP ρ τ H π H1 k l B)[x]?=B[x]?
 | [],_,_,_,_=>rfl
 | o::r,k,B,x,h=>by
  simp only[ax2,not_or]at h;simp only[bP];rw[zi h.2,upd,axU (ax6 h.1)]
def NR(body:Cf):Lm C (ku C body):=by
 intro f args H v H' h;unfold ku at h;split at h
 .cases h
 .rename_i as aN hl;simp only at h;split at h
  .split at h
   .cases h
   .rename_i u H1 _;unfold wrap at h;simp only at h;split at h
    .simp only[axH,axJ]at h;obtain⟨_,rfl⟩:=h;refine⟨by simp[jw,iG],fun x hx hn=>?_⟩;simp only[gK,hl,axV,not_or]at hn;rw[axL (by rw[jw,iG];exact hx),Bz,zi hn.1];intro hm;obtain⟨t,_,ht⟩:=ayX.1 (ay5.1 hm).1;unfold dN at ht;split at ht
     .simp at ht
     .split at ht
      .rename_i y hy;have hy':=axT hy;rcases axV.1 hy' with hy' | hy'
       .exact hn.2 (ayX.2 ⟨y,hy',ht⟩)
       .simp only[ayb]at hy';subst hy';simp at ht
      .simp at ht
    .cases h
  .cases h
def QG:∀ n,Lm C (lT C n)
 | 0=>by intro f args H v H' h;simp[lT]at h
 | n+1=>NR _
def BA{H H':Heap}{t:TypeId}{x k y:AV}(h:vV C H t x k y=some H'):Only (ids x) H H':=by
 unfold vV at h;split at h
 .cases h
 .split at h
  .split at h
   .split at h
    .split at h
     .simp only[axH]at h;subst h;exact Only.upd (by simp[ids]) _
     .simp only[axH]at h;subst h;exact Only.upd (by simp[ids]) _
     .cases h
    .cases h
   .cases h
  .cases h
def NS{H H':Heap}{t:TypeId}{x k v:AV}(h:uJ C H t x k=some (v,H')):Only (ids x) H H':=by
 unfold uJ at h;split at h
 .cases h
 .split at h
  .split at h
   .split at h
    .split at h
     .simp only[axH,axJ]at h;obtain⟨_,rfl⟩:=h;exact Only.refl _ _
     .simp only[axH,axJ]at h;obtain⟨_,rfl⟩:=h;exact Only.upd (by simp[ids]) _
     .cases h
    .cases h
   .cases h
  .cases h
def Dy{H H':Heap}{x k y:AV}(h:iD H x k y=some H'):Only (ids x) H H':=by
 unfold iD at h;split at h
 .cases h
 .split at h
  .split at h
   .split at h
    .split at h
     .split at h
      .simp only[axH]at h;subst h;exact Only.upd (by simp[ids]) _
      .cases h
     .cases h
    .cases h
   .cases h
  .cases h
theorem Jr (hcf:Lm C cf) {fr:Frame} {H H':Heap} {o:Oper} {v:AV} (h:step C cf fr H o = some (v,H')):Only (touched C fr H o) H H':=by
  have hO:∀ y,y ∈ o.op.operands→∀ x ∈ ids (aJ C fr y),x ∈ aC (jr C fr o):=fun y hy x h=>wu hy h
  have hT:∀ t y,y ∈ o.op.operands→∀ x ∈ ids (gu C fr t y),x ∈ aC (jr C fr o):=fun t y hy x h=>wu hy (Jq h)
  have keep:∀ {m:Option AV} {l:List Nat},(m.map fun v=>(v,H)) = some (v,H')→Only l H H':=by
    intro m l hm
    cases m with
    | none=>cases hm
    | some y =>
      simp only [axM,axH,axJ] at hm
      obtain ⟨_,rfl⟩:=hm
      exact Only.refl _ _
  have self:∀ {x:AV} {l:List Nat},some (x,H) = some (v,H')→Only l H H':=by
    intro x l hm
    simp only [axH,axJ] at hm
    obtain ⟨_,rfl⟩:=hm
    exact Only.refl _ _
  obtain ⟨dst,op,type,pos,after,guard⟩:=o
  have parts:∀ (t:TypeId) (ps:List (Nat × Operand)),(∀ p ∈ ps,p.2 ∈ op.operands)→∀ p ∈ iJ C fr t ps,∀ x ∈ ids p.2,x ∈ aC (jr C fr ⟨dst,op,type,pos,after,guard⟩):=by
    intro t ps
    induction ps with
    | nil=>intro _ p hp;simp [iJ] at hp
    | cons q r ih =>
      intro hq p hp
      simp only [iJ,ax2] at hp
      rcases hp with rfl | hp
      · exact hT t q.2 (hq q (by simp))
      · exact ih (fun z hz=>hq z (by simp [hz])) p hp
  cases op <;> simp only [step] at h <;> simp only [Op.operands] at hO hT parts
  case move x=>exact self h
  case assign x =>
    simp only [axH] at h
    unfold ak at h
    split at h
    · simp only [axJ] at h
      obtain ⟨_,rfl⟩:=h
      exact Only.push _ _ _
    · simp only [axJ] at h
      obtain ⟨_,rfl⟩:=h
      exact Only.refl _ _
  case pick c x y =>
    split at h
    · exact self h
    · cases h
  case alloc t =>
    cases hb:tY (bD C t) with
    | none=>rw [hb] at h;cases h
    | some p =>
      rw [hb] at h
      simp only [jv,axM,axH,axJ] at h
      obtain ⟨_,rfl⟩:=h
      exact Only.push _ _ _
  case box t x =>
    cases hb:tY (gu C fr t x) with
    | none=>rw [hb] at h;cases h
    | some p =>
      rw [hb] at h
      simp only [ayY] at h
      split at h
      · simp only [jv,axH,axJ] at h
        obtain ⟨_,rfl⟩:=h
        exact Only.push _ _ _
      · cases h
  case build t ps=>exact keep h
  case buildSlice t n ps =>
    refine Dx (parts _ _ fun p hp=>?_) h
    simp only [List.mem_toArray,ayd]
    exact ⟨p,hp,rfl⟩
  case load t x=>exact keep h
  case store t x y =>
    cases hs:zG C H t (aJ C fr x) (gu C fr t y) with
    | none=>rw [hs] at h;cases h
    | some H1 =>
      rw [hs] at h
      simp only [axM,axH,axJ] at h
      obtain ⟨_,rfl⟩:=h
      refine (NP hs).mono fun z hz=>?_
      simp only [touched,iP]
      rcases axV.1 hz with hz | hz
      · exact hO x (by simp) z hz
      · exact hT t y (by simp) z hz
  case nilCheck x =>
    split at h
    · split at h
      · exact self h
      · cases h
    · exact self h
    · cases h
  case binOp=>exact keep h
  case unOp=>exact keep h
  case convert s d x =>
    have key:∀ r,wI C H s d (gu C fr s x) = r→∀ v H',r = some (v,H')→H' = H:=by
      intro r hr v H' hv
      unfold wI at hr
      repeat' (split at hr)
      all_goals (subst hr;first | (cases hv;done) | (simp only [axH,axJ] at hv;exact hv.2.symm))
    rw [key _ h _ _ rfl]
    exact Only.refl _ _
  case makeFunc fn first caps =>
    cases fn <;> simp only at h
    case func f =>
      split at h
      · exact self h
      · cases h
    all_goals cases h
  case makeMap t r =>
    split at h
    · simp only [uK,axH,axJ] at h
      obtain ⟨_,rfl⟩:=h
      exact Only.push _ _ _
    · cases h
  case insert t m k y =>
    cases hs:vV C H t (aJ C fr m) (aJ C fr k) (gu C fr (oO C t) y) with
    | none=>rw [hs] at h;cases h
    | some H1 =>
      rw [hs] at h
      simp only [axM,axH,axJ] at h
      obtain ⟨_,rfl⟩:=h
      exact (BA hs).mono fun z hz=>hO m (by simp) z hz
  case mapUpdate t m k y =>
    cases hs:vV C H t (aJ C fr m) (aJ C fr k) (gu C fr (oO C t) y) with
    | none=>rw [hs] at h;cases h
    | some H1 =>
      rw [hs] at h
      simp only [axM,axH,axJ] at h
      obtain ⟨_,rfl⟩:=h
      exact (BA hs).mono fun z hz=>hO m (by simp) z hz
  case mapEntry t m k=>exact (NS h).mono fun z hz=>hO m (by simp) z hz
  case entryStore t m s y =>
    cases hs:iD H (aJ C fr m) (aJ C fr s) (gu C fr type y) with
    | none=>rw [hs] at h;cases h
    | some H1 =>
      rw [hs] at h
      simp only [axM,axH,axJ] at h
      obtain ⟨_,rfl⟩:=h
      exact (Dy hs).mono fun z hz=>hO m (by simp) z hz
  case lookup=>exact keep h
  case makeSlice t l c =>
    unfold fP at h
    repeat' (split at h)
    all_goals first
      | (cases h;done)
      | (simp only [ax7,axJ] at h
         obtain ⟨_,_,_,rfl⟩:=h
         exact Only.push _ _ _)
  case slice t x lo hi mx =>
    split at h
    · exact keep h
    · cases h
  case fieldAddr=>exact keep h
  case field=>exact keep h
  case indexAddr=>exact keep h
  case index=>exact keep h
  case extract t i =>
    split at h
    · exact keep h
    · cases h
  case call c =>
    cases hc:c.callee with
    | builtin b =>
      simp only [uX,hc] at h
      have hA:∀ (l:List Operand) (ts:List TypeId),(∀ y ∈ l,y ∈ c.args)→∀ a ∈ fA C fr l ts,∀ x ∈ ids a,x ∈ aC (jr C fr ⟨dst,.call c,type,pos,after,guard⟩):=by
        intro l
        induction l with
        | nil=>intro ts _ a ha;simp [fA] at ha
        | cons y r ih =>
          intro ts hl a ha x hx'
          simp only [fA,ax2] at ha
          have hy:y ∈ (Call.operands c):=by
            simp only [Call.operands,hc]
            exact az2.2 (.inr (hl y (by simp)))
          rcases ha with rfl | ha
          · cases ts with
            | nil=>exact hO y hy x hx'
            | cons t ts=>exact hT t y hy x hx'
          · exact ih _ (fun z hz=>hl z (by simp [hz])) a ha x hx'
      have hA':=hA c.args.toList c.argTypes.toList (fun y hy=>ay7.1 hy)
      simp only [touched,iP,hc]
      generalize fA C fr c.args.toList c.argTypes.toList = args at h hA'
      have acY:∀ {m:Option Int},(m.map fun n=>(AV.int .i64 n,H)) = some (v,H')→Only (aC (jr C fr ⟨dst,.call c,type,pos,after,guard⟩)) H H':=by
        intro m hm
        cases m with
        | none=>cases hm
        | some y =>
          simp only [axM,axH,axJ] at hm
          obtain ⟨_,rfl⟩:=hm
          exact Only.refl _ _
      unfold kR at h
      split at h
      · exact acY h
      · exact acY h
      · split at h
        · rename_i s x _ _
          exact (Ll h).mono fun z hz=>hA' _ (by simp) z hz
        · cases h
      · rename_i s x
        exact (QE h).mono fun z hz=>hA' _ (by simp) z hz
      · exact keep h
      · exact keep h
      · cases h
    | value x =>
      simp only [uX,hc] at h
      split at h
      · rename_i f caps he
        split at h
        · simp only [touched,iP,hc,he]
          exact hcf _ _ _ _ _ h
        · cases h
      · cases h
    | invoke r n=>simp only [uX,hc] at h;cases h
  all_goals cases h
end
def But(n:Nat)(H H2:Heap):Prop:=∀ o,o≠n->H2[o]?=H[o]?
def But.push(H:Heap)(ob:Option Obj):But H.length H (H++[ob]):=by
 intro o ho;by_cases h:o<H.length
 .rw [axL h]
 .rw [ax0 (by simp;omega),ax0 (by omega)]
def But.pop(H:Heap)(ob:Option Obj):But H.length (H++[ob]) H:=fun o ho=>(But.push H ob o ho).symm
section
variable {n:Nat}{H H2:Heap}
def yP:∀ (k:Nat) (l acc:List Nat) (x:Nat),x∈acc->x∈reach H k l acc
 | 0,_,_,_,h=>h
 | k+1,[],_,_,h=>h
 | k+1,o::r,acc,x,h=>by
  simp only[reach];split
  .exact yP k r acc x h
  .split
   .exact yP k _ _ x (by simp[h])
   .exact yP k r acc x h
def yQ(hb:But n H H2):∀ (k:Nat) (l acc:List Nat),n∉l->(∀ o∈reach H k l acc,n∉nT H o)->reach H2 k l acc=reach H k l acc
 | 0,_,_,_,_=>rfl
 | k+1,[],_,_,_=>rfl
 | k+1,o::r,acc,hl,hr=>by
  simp only[ax2,not_or]at hl;simp only[reach]at hr ⊢;split
  .rename_i hc;rw[if_pos hc]at hr;exact yQ hb k r acc hl.2 hr
  .rename_i hc;rw[if_neg hc]at hr;rw[hb o (ax6 hl.1)];split
   .rename_i ob ho;rw[ho]at hr;simp only at hr;have hm:=hr o (yP k _ _ o (by simp));simp only[nT,ho]at hm;refine yQ hb k _ _ ?_ hr;split
    .simp only[axV,not_or];exact⟨hm,hl.2⟩
    .simpa using hl.2
   .rename_i hx;split at hr
    .rename_i ob ho;exact absurd ho (hx ob)
    .exact yQ hb k r acc hl.2 hr
def NU(hb:But n H H2){o g:Nat}(ho:o≠n):live H2 o g=live H o g:=jd (hb o ho) g
def NV(hb:But n H H2){o:Nat}(ho:o≠n):aP H2 o=aP H o:=by simp only[aP,hb o ho]
def Js(hb:But n H H2){t:Nat}{a:AV}(h:n∉ids a):dS H2 t a=dS H t a:=by
 cases a<;>try rfl
 case sl o off len g=>
  simp only[ids,ayb]at h;simp only[dS,NU hb (ax6 h)]
def Dz(hb:But n H H2){t:Nat}:∀ {l:List AV},n∉aC l->iC H2 t l=iC H t l
 | [],_=>rfl
 | a::r,h=>by
  simp only[aC,axV,not_or]at h;simp only[iC,Js hb h.1,Dz hb h.2]
def Vf(hb:But n H H2){t:Nat}{a:AV}(h:n∉ids a):dY H2 t a=dY H t a:=by
 unfold dY;split
 .simp only[ids]at h;rw[Dz hb h]
 .simp only[ids]at h;rw[Dz hb h]
 .exact Js hb h
variable {C:Ctx}
def BD(hb:But n H H2){f:Nat}:∀ {args:List AV} {i:Nat},n∉aC args->aH C f H2 i args=aH C f H i args
 | [],_,_=>rfl
 | a::r,i,h=>by
  simp only[aC,axV,not_or]at h;simp only[aH,Vf hb h.1,BD hb h.2]
def xQ(hb:But n H H2){f:Nat}{args:List AV}(h:n∉dM C f args H) :
 aH C f H2 0 args=aH C f H 0 args/\gK C f args H2=gK C f args H/\dM C f args H2=dM C f args H /\
 ∀ as aN,aH C f H 0 args=some (as,aN)->n∉aC as/\(∀ o∈reach H aA (aC as) [],o≠n/\n∉nT H o)/\n∉aN.flatMap (·.objs)/\reach H2 aA (aC as) []=reach H aA (aC as) []:=by
 unfold dM at h;rw[axV,not_or]at h;have e1:=BD (C:=C) hb (f:=f) (i:=0) h.1;cases hl:aH C f H 0 args with
 | none=>exact⟨by rw[e1,hl],by simp only[gK,e1,hl],by simp only[dM,e1,hl],fun as aN e=>by cases e⟩
 | some r=>
  obtain⟨as,aN⟩:=r;rw[hl]at h e1;simp only[axV,not_or]at h;obtain⟨_,h1,h2,h3,h4⟩:=h;have h5:∀ o∈reach H aA (aC as) [],n∉nT H o:=fun o ho hn=>h4 (ayX.2 ⟨o,ho,hn⟩);have e2:=yQ hb aA (aC as) [] h1 h5;have e3:(reach H aA (aC as) []).flatMap (nT H2)=(reach H aA (aC as) []).flatMap (nT H):=by
   have:∀ (L:List Nat),n∉L->L.flatMap (nT H2)=L.flatMap (nT H):=by
    intro L;induction L with
    | nil=>intro _;rfl
    | cons x L ih=>
     intro hx;simp only[ax2,not_or]at hx;simp only[azv,ih hx.2];simp only[nT,hb x (ax6 hx.1)]
   exact this _ h2
  refine⟨e1,by simp only[gK,e1,hl,e2],by simp only[dM,e1,hl,e2,e3],fun as' ar6 e=>?_⟩;simp only[axH,axJ]at e;obtain⟨rfl,rfl⟩:=e;exact⟨h1,fun o ho=>⟨fun e=>h2 (e ▸ ho),h5 o ho⟩,h3,e2⟩
mutual
def Lp{ρ ρ':Nat->Nat->Option (Nat×Nat)}{τ:Nat->Nat}(h:∀ o g,o≠n->ρ' o g=ρ o g):(v:AV)->n∉ids v->ren ρ' τ v=ren ρ τ v
 | .ptr o i f g,hv=>by
  simp only[ids,ayb]at hv;simp only[ren,h o g (ax6 hv)]
 | .sl o a b g,hv=>by
  simp only[ids,ayb]at hv;simp only[ren,h o g (ax6 hv)]
 | .map o g,hv=>by
  simp only[ids,ayb]at hv;simp only[ren,h o g (ax6 hv)]
 | .agg p,hv=>by simp only[ids]at hv;simp only[ren,Lp h p hv]
 | .tup l,hv=>by simp only[ids]at hv;simp only[ren,sS h l hv]
 | .fn f l,hv=>by simp only[ids]at hv;simp only[ren,sS h l hv]
 | .pc l,hv=>by simp only[ids]at hv;simp only[ren,sS h l hv]
 | .pr e l,hv=>by simp only[ids]at hv;simp only[ren,sS h l hv]
 | .pm l,hv=>by simp only[ids]at hv;simp only[ren,sS h l hv]
 | .top,_=>rfl
 | .bool _,_=>rfl
 | .int _ _,_=>rfl
 | .str _,_=>rfl
 | .gZ,_=>rfl
 | .jl ..,_=>rfl
 | .ro ..,_=>rfl
 | .jS,_=>rfl
 | .iL,_=>rfl
 | .pn,_=>rfl
 | .pb _,_=>rfl
 | .pi _ _,_=>rfl
def sS{ρ ρ':Nat->Nat->Option (Nat×Nat)}{τ:Nat->Nat}(h:∀ o g,o≠n->ρ' o g=ρ o g):(l:List AV)->n∉aC l->bU ρ' τ l=bU ρ τ l
 | [],_=>rfl
 | a::r,hv=>by
  simp only[aC,axV,not_or]at hv;simp only[bU,Lp h a hv.1,sS h r hv.2]
end
end
def set_push{B:Heap}{ob x:Option Obj}{o:Nat}(h:o≠B.length):(B++[ob]).set o x=B.set o x++[ob]:=by
 rw[List.set_append];split
 .rfl
 .rename_i hlt;obtain⟨k,hk⟩:∃ k,o-B.length=k+1:=⟨o-B.length-1,by omega⟩;have e:B.set o x=B:=List.set_eq_of_length_le (by omega);rw[hk,e];rfl
def Ei{ob:Option Obj}:∀ {l:List Nat} {B:Heap},B.length∉l->strike l (B++[ob])=strike l B++[ob]
 | [],_,_=>rfl
 | o::r,B,h=>by
  simp only[ax2,not_or]at h;simp only[ayt,strike,upd];rw[set_push (ax6 h.1),Ei (by simpa using h.2)]
def BF{ρ:Nat->Nat->Option (Nat×Nat)}{τ:Nat->Nat}{H H2:Heap}{π:List Nat}{H1:Heap}{ob:Option Obj}
 (hg:∀ k g,dK H2 π k g=dK H π k g):∀ {l:List Nat} {k:Nat} {B:Heap},B.length∉l->bP ρ τ H2 π H1 k l (B++[ob])=bP ρ τ H π H1 k l B++[ob]
 | [],_,_,_=>rfl
 | o::r,k,B,h=>by
  simp only[ax2,not_or]at h;simp only[bP,upd,hg];rw[set_push (ax6 h.1),BF hg (by simpa using h.2)]
def BG{H:Heap}{ob:Option Obj}{π:List Nat}(h:H.length∉π)(k g:Nat):dK (H++[ob]) π k g=dK H π k g:=by
 unfold dK;cases hk:π[k]? with
 | none=>rfl
 | some o=>
  have:o≠H.length:=fun e=>h (e ▸ axT hk);simp only[NV (But.push H ob) this]
def zS{H:Heap}{ob:Option Obj}{π:List Nat}{H1:Heap}(h:H.length∉π):aY (H++[ob]) π [] H1=aY H π [] H1:=by
 funext o g;unfold aY;split
 .split
  .simp only[BG h]
  .rfl
 .rfl
def Jt{H:Heap}{π:List Nat}{aN:List fB}{v:AV}{H1:Heap}{ob:Option Obj}(hπ:H.length∉π)(hl:H.length∉aN.flatMap (·.objs)) :
 (∀ u H',wrap H π aN v H1=some (u,H')->H'.length=H.length->wrap (H++[ob]) π aN v H1=some (u,H'++[ob])) /\
 (∀ u H2,wrap (H++[ob]) π aN v H1=some (u,H2)->H2.length=H.length+1->∃ H',H2=H'++[ob]/\H'.length=H.length/\wrap H π aN v H1=some (u,H')):=by
 unfold wrap;simp only;generalize hnew:(reach H1 aA (List.range π.length++ids v) []).filter (fun o=>decide (π.length<=o))=new;have Yo:∀ (L:List Nat) (q:Nat->Bool),H.length∉(L.flatMap (dN aN)).filter q:=by
  intro L q hm;obtain⟨t,_,ht⟩:=ayX.1 (ay5.1 hm).1;unfold dN at ht;split at ht
  .simp at ht
  .split at ht
   .rename_i y hy;exact hl (ayX.2 ⟨y,axT hy,ht⟩)
   .simp at ht
 split
 .cases new with
  | nil=>
   have key:strike (((tags v++au ((List.range π.length).map (aP H1))++au ([].map (aP H1))).flatMap (dN aN)).filter fun o=>((uf v++dD ((List.range π.length).map (aP H1))++dD ([].map (aP H1))).flatMap (dN aN)).contains o) (bP (aY (H++[ob]) π [] H1) (bW aN) (H++[ob]) π H1 0 π (H++[ob])) =
    strike (((tags v++au ((List.range π.length).map (aP H1))++au ([].map (aP H1))).flatMap (dN aN)).filter fun o=>((uf v++dD ((List.range π.length).map (aP H1))++dD ([].map (aP H1))).flatMap (dN aN)).contains o) (bP (aY H π [] H1) (bW aN) H π H1 0 π H)++[ob]:=by
    rw[zS hπ,BF (BG hπ) hπ,Ei];rw[iG];exact Yo _ _
   constructor
   .intro u H' h _;simp only[axH,axJ,aye,ax1]at h ⊢;obtain⟨rfl,rfl⟩:=h;simp only[aye]at key;exact⟨by rw[zS hπ],key⟩
   .intro u H2 h _;simp only[axH,axJ,aye,ax1]at h ⊢;simp only[aye]at key;obtain⟨rfl,rfl⟩:=h;exact⟨_,key,by rw[jw,iG],by rw[zS hπ],rfl⟩
  | cons x r=>
   constructor
   .intro u H' h hlen;simp only[axH,axJ]at h;obtain⟨_,rfl⟩:=h;simp[jw,iG]at hlen
   .intro u H2 h hlen;simp only[axH,axJ]at h;obtain⟨_,rfl⟩:=h;simp[jw,iG]at hlen
 .exact ⟨fun u H' h=>by simp at h,fun u H2 h=>by simp at h⟩
section
variable {C:Ctx}
def QH(C:Ctx)(cf:Cf):Prop:=∀ f args H v H',cf f args H=some (v,H')->H'.length=H.length ->
 (∀ ob,H.length∉dM C f args H->cf f args (H++[ob])=some (v,H'++[ob])) /\
 (∀ H0 ob,H=H0++[ob]->H0.length∉dM C f args H->∃ H0',H'=H0'++[ob]/\H0'.length=H0.length/\cf f args H0=some (v,H0'))
def GX(body:Cf){n:Nat}{H H2:Heap}(hb:But n H H2){f:Nat}{args:List AV}(h:n∉dM C f args H){r:AV×Heap}(hr:ku C body f args H=some r) :
 ∃ π aN v H1,wrap H π aN v H1=some r/\n∉π/\n∉aN.flatMap (·.objs)/\ku C body f args H2=wrap H2 π aN v H1:=by
 obtain⟨e1,_,_,h4⟩:=xQ (C:=C) hb h;unfold ku at hr ⊢;rw[e1];split at hr
 .cases hr
 .rename_i as aN hl;obtain⟨h5,h6,h7,h8⟩:=h4 as aN hl;simp only at hr ⊢;rw[h8];generalize hπ:reach H aA (aC as) []=π at hr h6 ⊢;have hnπ:n∉π:=fun hm=>(h6 n hm).1 rfl;have hin:∀ o g,o≠n->bV H2 π o g=bV H π o g:=fun o g ho=>by simp only[bV,NU hb ho]
  have hat:∀ o∈π,aP H2 o=aP H o:=fun o ho=>NV hb (h6 o ho).1;have e3:π.map (aP H2)=π.map (aP H):=ayC hat;have e4:(π.map fun o=>(aP H2 o).map (aQ (bV H2 π) (fun _=>as.length+1) 0))=π.map fun o=>(aP H o).map (aQ (bV H π) (fun _=>as.length+1) 0):=by
   refine ayC fun o ho=>?_;rw[hat o ho];cases hx:aP H o with
   | none=>rfl
   | some ob=>
    have jQ:n∉ids ob.p:=by
     have:=(h6 o ho).2;unfold nT at this;unfold aP at hx;cases hy:H[o]? with
     | none=>rw[hy]at hx;cases hx
     | some z=>
      rw[hy]at hx this;simp only[ayv]at hx;subst hx;exact this
    simp only[axM,aQ,Lp hin ob.p jQ]
  rw[e3,e4,sS hin as h5];split at hr
  .rename_i hc;rw[if_pos hc];split at hr
   .cases hr
   .rename_i v H1 hbd;refine⟨π,_,v,H1,hr,hnπ,?_,rfl⟩;simpa using h7
  .cases hr
def NY(body:Cf):QH C (ku C body):=by
 intro f args H v H' h hlen;constructor
 .intro ob hn;obtain⟨π,aN,u,H1,h1,h2,h3,h4⟩:=GX (C:=C) body (But.push H ob) hn h;rw[h4];exact(Jt h2 h3).1 v H' h1 hlen
 .intro H0 ob he hn;subst he;obtain⟨π,aN,u,H1,h1,h2,h3,h4⟩:=GX (C:=C) body (But.pop H0 ob) hn h;rw[h4];exact(Jt h2 h3).2 v H' h1 (by simpa using hlen)
def QI:∀ n,QH C (lT C n)
 | 0=>by intro f args H v H' h;simp[lT]at h
 | n+1=>NY _
def nU(C:Ctx)(cf:Cf):Prop:=Lm C cf/\QH C cf
def MR(n:Nat):nU C (lT C n):=⟨QG n,QI n⟩
end
def Now(C:Ctx)(T:Nat->Nat->Prop)(m:Nat)(K0:Kx)(nt:Nat)(fr:Frame)(H:Heap)(a:Act)(w:World):Prop :=
 ∃ μ,Inv C ⟨μ,H,w⟩ T/\Evo T m K0 ⟨μ,H,w⟩/\rD ⟨μ,H,w⟩ T fr a.tmps/\nt<=a.tmps.size/\a.defers=[]
section
variable {C:Ctx}{T:Nat->Nat->Prop}{m nt:Nat}{K0:Kx}{fr:Frame}{H:Heap}{a:Act}{w:World}
def BH(a:Act)(d:Option Nat)(v:Value):(a.put d v).tmps.size=a.tmps.size:=by
 cases d<;>simp[Act.put]
def put_defers(a:Act)(d:Option Nat)(v:Value):(a.put d v).defers=a.defers:=by
 cases d<;>rfl
def Now.put{μ μ':Nat->Pl}{H':Heap}{w':World}{x:AV}{v:Value}{d:Option Nat}(hE0:Evo T m K0 ⟨μ,H,w⟩)(hf:rD ⟨μ,H,w⟩ T fr a.tmps)(hn:nt<=a.tmps.size)(hd:a.defers=[])
 (hI:Inv C ⟨μ',H',w'⟩ T)(hE:Evo T H.length ⟨μ,H,w⟩ ⟨μ',H',w'⟩)(hv:aF ⟨μ',H',w'⟩ T x v)(hdst:AQ nt d=true) :
 Now C T m K0 nt (jU fr d x) H' (a.put d v) w':=by
 refine⟨μ',hI,hE0.trans hE hE0.len,rD.put (rD.evo hE (axO _) hf) hv (fun i hi=>?_),by rw[BH];exact hn,by rw[put_defers];exact hd⟩;subst hi;simp only[AQ,decide_eq_true_eq]at hdst;omega
def Vg(K:Kx)(T:Nat->Nat->Prop):aF K T (.tup []) undef:=by
 simp only[aF,undef];exact⟨#[],rfl,rfl,by simp⟩
def yR{ops:Array Oper}{o:Oper}{d:Bool}{K:Kx}(hf:rD K T fr a.tmps)(h:lq ops fr o=some d):Region.wanted o (yielded ops a.tmps)=d:=by
 unfold lq at h;unfold Region.wanted;cases hg:o.guard with
 | none=>
  rw[hg]at h;simp only[axH]at h;exact h
 | some x=>
  obtain⟨j,want⟩:=x;rw[hg]at h;simp only at h ⊢;unfold yielded;cases hd:(ops[j]?).bind (·.dst)with
  | none=>rw[hd]at h;cases h
  | some t=>
   rw[hd]at h;simp only[ayY]at h ⊢;have hv:=hf t;rw[ayp]at hv;split at h
   .rename_i b hb;simp only[axH]at h;subst h;rw[hb]at hv;simp only[aF,aK,aU,RV]at hv;cases ht:a.tmps[t]? with
    | none=>rw[ht]at hv;simp[undef]at hv
    | some v=>
     rw[ht]at hv;simp only[ayv]at hv;subst hv;simp only;cases b<;>cases want<;>rfl
   .rename_i hb;simp only[axH]at h;subst h;rw[hb]at hv;simp only[aF]at hv;obtain⟨vs,h1,_,_⟩:=hv;cases ht:a.tmps[t]? with
    | none=>simp
    | some v=>
     rw[ht]at h1;simp only[ayv]at h1;subst h1;simp
   .cases h
def run_callFunc {P : Program} {f : FuncId} {fn : Func} (hF : P.funcs[f]? = some fn) (hname : (fn.name == "runtime.NumGoroutine") = false) (hb : fn.body.isNone = false) (args : Array Value) (w : World) :
  (callFunc f args).run P w=.ok (.enter f args) w:=by
 simp only[callFunc,Sem.run_bind,run_program,Result.andThen_ok,hF,hname,hb,axZ,if_false]
 rfl
def Ju {cf:Cf} (hcf:CX C cf) {P:Program} (hP:P=C.P) {o:Oper} {x:AV} {H':Heap} (h:step C cf fr H o=some (x,H')) (hN:Now C T m K0 nt fr H a w) (hdst:AQ nt o.dst=true)
  {next:Act->World->Prop} {Q:Exit->Act->World->Prop} (hnext:∀ v w',Now C T m K0 nt (jU fr o.dst x) H' (a.put o.dst v) w'->next (a.put o.dst v) w') :
  o.wp P a w next Q:=by
 subst hP
 obtain⟨μ,hI,hE0,hf,hn,hd⟩:=hN
 unfold Oper.wp
 by_cases hfn:isFn o.op=true
 .obtain ⟨dst,op,type,pos,after,guard⟩:=o
  cases op<;>simp only[isFn,axZ]at hfn
  case call c=>
   have hce:∃ fx,c.callee=.value fx:=by
    cases hc:c.callee<;>rw[hc]at hfn<;>simp at hfn
    exact⟨_,rfl⟩
   obtain⟨fx,hce⟩:=hce
   simp only[step,uX,hce]at h
   split at h
   .rename_i f caps hev
    split at h
    .rename_i hbod
     have hfv:=yE hI hf fx
     rw[hev]at hfv
     simp only[aF,aK]at hfv
     obtain⟨vs,hvs,hlen,hcap⟩:=hfv
     have hargs:fD ⟨μ,H,w⟩ T (fA C fr c.args.toList (aI C f)++caps) ((c.args.map a.eval)++vs).toList:=by
      have h1:=wz hI hf c.args.toList (aI C f)
      have h2:∀ (l:List AV) (us:List Value) ,us.length=l.length->(∀ (j:Nat) (a:AV),l[j]?=some a->∃ u,us[j]?=some u/\aU ⟨μ,H,w⟩ T a u)->fD ⟨μ,H,w⟩ T l us:=by
       intro l
       induction l with
       | nil=>intro us hl _;cases us with
        | nil=>trivial
        | cons=>simp at hl
       | cons b r ih=>
        intro us hl hj
        cases us with
        | nil=>simp at hl
        | cons u us=>
         refine⟨?_,ih us (by simpa using hl) (fun j c hc=>by simpa using hj (j+1) c (by simpa using hc))⟩
         obtain⟨u',h3,h4⟩:=hj 0 b rfl
         simp only[ayf,axH]at h3
         subst h3
         exact(aK.s h4).v
      have h3:∀ (l:List AV) (us:List Value) (l':List AV) (us':List Value),fD ⟨μ,H,w⟩ T l us->fD ⟨μ,H,w⟩ T l' us'->fD ⟨μ,H,w⟩ T (l++l') (us++us'):=by
       intro l
       induction l with
       | nil=>intro us l' us' h h';rw[h.nil];exact h'
       | cons b r ih=>
        intro us l' us' h h'
        obtain⟨v,s,rfl,h4,h5⟩:=h.cons
        exact⟨h4,ih s l' us' h5 h'⟩
      rw[Array.toList_append,Array.toList_map]
      exact h3 _ _ _ _ h1 (h2 _ _ (by simpa using hlen) (fun j b hb=>by obtain⟨u,h4,h5⟩:=hcap j b hb;exact⟨u,by simpa using h4,h5⟩))
     have CZ:=hcf f _ H x H' h ⟨μ,H,w⟩ T _ rfl hI hargs
     have hrun:(execOp a.eval ⟨dst,.call c,type,pos,after,guard⟩).run C.P w=.ok (.enter f ((c.args.map a.eval)++vs)) w:=by
      unfold bodied at hbod
      cases hF:C.P.funcs[f]? with
      | none=>rw[hF]at hbod;simp at hbod
      | some fn=>
       rw[hF]at hbod
       simp only[axM,ayv,ax4,bne_iff_ne,ne_eq]at hbod
       have hb1:fn.body.isNone=false:=by
        cases hb:fn.body with
        | none=>rw[hb]at hbod;simp at hbod
        | some=>rfl
       have hname : (fn.name == "runtime.NumGoroutine") = false := by simpa using hbod.2
       simp only[execOp,resolve,hce,hvs,Deferred.ofValue,Sem.run_bind,Sem.run_pure,Result.andThen_ok,invoke,Array.empty_append]
       exact run_callFunc hF hname hb1 _ _
     rw[hrun,Oper.upon_enter]
     refine Calls.mono CZ fun e w' he=>?_
     cases e with
     | returned v=>
      obtain⟨μ',h1,h2,h3⟩:=he
      exact hnext v w' (Now.put hE0 hf hn hd h1 h2 h3 hdst)
     | panicked=>exact he.elim
     | outgrown=>exact he.elim
    .cases h
   .cases h
 .have hr:=step_ok hI hf (by simpa using hfn) h
  simp only at hr
  revert hr
  generalize (execOp a.eval o).run C.P w=r
  intro hr
  unfold Res at hr
  split at hr
  .obtain ⟨μ',h1,h2,h3⟩:=hr
   rw[Oper.upon_value]
   exact hnext _ _ (Now.put hE0 hf hn hd h1 h2 h3 hdst)
  .obtain ⟨μ',h1,h2,h3⟩:=hr
   rw[Oper.upon_skip]
   exact hnext _ _ (Now.put hE0 hf hn hd h1 h2 h3 hdst)
  .exact hr.elim
def NZ{d:Option Nat}(hN:Now C T m K0 nt fr H a w)(hdst:AQ nt d=true):Now C T m K0 nt (jU fr d (.tup [])) H (a.put d undef) w:=by
 obtain⟨μ,hI,hE0,hf,hn,hd⟩:=hN;exact Now.put hE0 hf hn hd hI (Evo.refl T _ (axO _)) (Vg _ _) hdst
def CY{cf:Cf}(hcf:CX C cf){ops:Array Oper}{Q:Exit->Act->World->Prop}:∀ (l:List Oper) (i:Nat) {fr:Frame} {H:Heap} {a:Act} {w:World} {fr':Frame} {H':Heap},ops.toList.drop i=l ->
 mG C cf nt ops l fr H=some (fr',H')->Now C T m K0 nt fr H a w->(∀ a' w',Now C T m K0 nt fr' H' a' w'->Q .normal a' w')->wpOps C.P ops Q (List.range' i l.length) a w
 | [],i,fr,H,a,w,fr',H',hl,h,hN,hQ=>by
  simp only[mG,axH,axJ]at h;obtain⟨rfl,rfl⟩:=h;exact hQ a w hN
 | o::r,i,fr,H,a,w,fr',H',hl,h,hN,hQ=>by
  have hi:ops[i]?=some o:=by
   rw[<- ayr];have:(ops.toList.drop i)[0]?=some o:=by rw[hl];rfl
   simpa using this
  have hl':ops.toList.drop (i+1)=r:=by have:=congrArg List.tail hl;simpa[List.tail_drop]using this
  simp only[axY,azZ];rw[wpOps_cons];unfold wpOp;rw[hi];simp only;simp only[mG]at h;split at h
  .rename_i hdst;split at h
   .rename_i hw;obtain⟨μ,hI,hE0,hf,hn,hd⟩:=id hN;rw[yR hf hw];simp only[if_true];split at h
    .rename_i v H1 hs
     left
     exact Ju hcf rfl hs hN hdst fun u w' hN'=>CY hcf r (i+1) hl' h hN' hQ
    .cases h
   .rename_i hw;obtain⟨μ,hI,hE0,hf,hn,hd⟩:=id hN;rw[yR hf hw];simp only[axZ,if_false];exact CY hcf r (i+1) hl' h (NZ hN hdst) hQ
   .cases h
  .cases h
end
def N7(ρ:Nat->Nat->Option (Nat×Nat))(τ:Nat->Nat):∀ (fr:Frame) (i:Nat),aB (YT ρ τ fr) i=ren ρ τ (aB fr i)
 | [],i=>rfl
 | (j,v)::r,i=>by
  simp only[YT,aB];split
  .rfl
  .exact N7 ρ τ r i
def Jv(fr:Frame):∀ (l:List Nat) (i:Nat),aB (dF l fr) i=aB fr i\/aB (dF l fr) i=.top
 | [],i=>.inr rfl
 | j::r,i=>by
  have:=Jv fr r i;simp only[dF,ax9,aB];split
  .rename_i h;subst h;exact .inl rfl
  .exact this
section
variable {C:Ctx}{T:Nat->Nat->Prop}{m nt:Nat}{K0:Kx}{fr:Frame}{H:Heap}{a:Act}{w:World}
def Now.keep(h:Now C T m K0 nt fr H a w)(l:List Nat):Now C T m K0 nt (dF l fr) H a w:=by
 obtain⟨μ,hI,hE,hf,hn,hd⟩:=h;refine⟨μ,hI,hE,fun i=>?_,hn,hd⟩;rcases Jv fr l i with h|h<;>rw[h]
 .exact hf i
 .exact aF.top _ _ _
def Vh(m:Nat)(new:List Nat)(H:Heap)(o g:Nat):Option (Nat×Nat) :=
 match live H o g with
 | some _=>if o<m then some (o,g)else(idxOf new o m).map fun k=>(k,0)
 | none=>none
def abu(ρ:Nat->Nat->Option (Nat×Nat))(H:Heap)(o:Nat)(g:Nat->Nat):Option Obj :=
 match H[o]? with|some (some ob)=>some (aQ ρ id (g ob.g) ob)|_=>none
def Ej(ρ:Nat->Nat->Option (Nat×Nat))(m:Nat)(new:List Nat)(H:Heap):Heap :=
 (List.range m).map (fun o=>abu ρ H o id)++new.map (fun o=>abu ρ H o (fun _=>0))
def nμ(m:Nat)(new:List Nat)(μ:Nat->Pl)(o:Nat):Pl:=if o<m then μ o else μ (new.getD (o-m) 0)
def Jw{ρ:Nat->Nat->Option (Nat×Nat)}{H:Heap}{o:Nat}{g:Nat->Nat}{ob':Obj}(h:abu ρ H o g=some ob'):∃ ob,H[o]?=some (some ob)/\ob'=aQ ρ id (g ob.g) ob:=by
 unfold abu at h;split at h
 .rename_i ob hob;simp only[axH]at h;exact⟨ob,hob,h.symm⟩
 .cases h
def DF{ρ:Nat->Nat->Option (Nat×Nat)}{new:List Nat}:(Ej ρ m new H).length=m+new.length:=by simp[Ej]
def pR{ρ:Nat->Nat->Option (Nat×Nat)}{new:List Nat}{μ:Nat->Pl}{o:Nat}{ob':Obj}(h:(Ej ρ m new H)[o]?=some (some ob')) :
 (o<m/\∃ ob,H[o]?=some (some ob)/\ob'=aQ ρ id ob.g ob/\nμ m new μ o=μ o) \/
 ∃ j k ob,o=m+j/\new[j]?=some k/\H[k]?=some (some ob)/\ob'=aQ ρ id 0 ob/\nμ m new μ o=μ k:=by
 unfold Ej at h;by_cases hlt:o<m
 .left
  rw[axL (by simpa using hlt),axP,ayJ hlt]at h;simp only[axM,axH]at h;obtain⟨ob,h1,h2⟩:=Jw h;exact⟨hlt,ob,h1,h2,by simp[nμ,hlt]⟩
 .right
  rw[axS (by simp;omega),ayB,azV,axP]at h;cases hk:new[o-m]? with
  | none=>rw[hk]at h;cases h
  | some k=>
   rw[hk]at h;simp only[axM,axH]at h;obtain⟨ob,h1,h2⟩:=Jw h;exact⟨o-m,k,ob,by omega,hk,h1,h2,by simp[nμ,hlt,axQ,hk]⟩
def BI{ρ:Nat->Nat->Option (Nat×Nat)}{new:List Nat}{μ:Nat->Pl}{b:Nat}(h:Own ⟨nμ m new μ,Ej ρ m new H,w⟩ b):Own ⟨μ,H,w⟩ b:=by
 obtain⟨o,ob',h1,h2,h3⟩:=h;rcases pR (μ:=μ) h1 with⟨_,ob,g1,rfl,g3⟩|⟨j,k,ob,_,_,g1,rfl,g3⟩
 .simp only[g3]at h2 h3;exact⟨o,ob,g1,(Real.same (dO _ _ _ ob)).1 h2,h3⟩
 .simp only[g3]at h2 h3;exact⟨k,ob,g1,(Real.same (dO _ _ _ ob)).1 h2,h3⟩
def Y9{new:List Nat}{μ:Nat->Pl}:Ren (Vh m new H) id ⟨μ,H,w⟩ ⟨nμ m new μ,Ej (Vh m new H) m new H,w⟩ T T (fun _=>True) where
 w:=rfl
 h:=by
  intro o g o' g' h;unfold Vh at h;split at h
  .rename_i ob hob;obtain⟨ho,hg⟩:=cZ.1 hob;split at h
   .rename_i hlt;simp only[axH,axJ]at h;obtain⟨rfl,rfl⟩:=h;refine⟨by simp only;rw[DF];omega,ob,hob,fun ob' h=>?_⟩;rcases pR (μ:=μ) h with⟨_,ob1,g1,rfl,g3⟩|⟨j,k,ob,g,_⟩
    .rw [ho]at g1;simp only[axH]at g1;subst g1;simp only[aQ,hg,axO,true_and];exact fun _=>⟨g3,dO _ _ 0 ob⟩
    .omega
   .rename_i hlt;cases hi:idxOf new o m with
    | none=>rw[hi]at h;cases h
    | some k=>
     rw[hi]at h;simp only[axM,axH,axJ]at h;obtain⟨rfl,rfl⟩:=h;obtain⟨h1,h2⟩:=vZ hi;have h3:=(axK.1 h2).1;refine⟨by simp only;rw[DF];omega,ob,hob,fun ob' h=>?_⟩;rcases pR (μ:=μ) h with⟨q,_⟩|⟨j,k',ob1,q,q2,g1,rfl,g3⟩
     .omega
     .have:j=k-m:=by omega
      subst this;rw[h2]at q2;simp only[axH]at q2;subst q2;rw[ho]at g1;simp only[axH]at g1;subst g1;exact⟨ayF _,fun _=>⟨g3,dO _ _ 0 ob⟩⟩
  .cases h
 t:=fun t _ b hb=>⟨hb.1,fun h=>hb.2.1 (BI h),hb.2.2⟩
def Now.norm(h:Now C T m K0 nt fr H a w):Now C T m K0 nt (KU m fr H).1 (KU m fr H).2 a w:=by
 obtain⟨μ,hI,hE,hf,hn,hd⟩:=h;obtain⟨hnd,hlive⟩:=vC H aA (List.range m++Qu fr) [] List.nodup_nil (by simp);have e:KU m fr H=(YT (Vh m ((reach H aA (List.range m++Qu fr) []).filter fun o=>m<=o) H) id fr,
  Ej (Vh m ((reach H aA (List.range m++Qu fr) []).filter fun o=>m<=o) H) m ((reach H aA (List.range m++Qu fr) []).filter fun o=>m<=o) H):=rfl
 rw[e];generalize hnew:((reach H aA (List.range m++Qu fr) []).filter fun o=>decide (m<=o))=new;have hnn:new.Nodup:=by rw[<- hnew];exact hnd.filter _
 have hge:∀ k∈new,m<=k:=fun k hk=>by rw[<- hnew]at hk;simpa using(ay5.1 hk).2
 have hR:=Y9 (T:=T) (m:=m) (H:=H) (w:=w) (new:=new) (μ:=μ);have hlen:m<=H.length:=hE.len;refine⟨nμ m new μ,?_,?_,fun i=>?_,hn,hd⟩
 .constructor
  .intro o ob' h;rcases pR (μ:=μ) h with⟨_,ob,g1,rfl,g3⟩|⟨j,k,ob,_,_,g1,rfl,g3⟩
   .exact gB.ren hR (fun _ _=>trivial) g3 (hI.obj o ob g1)
   .exact gB.ren hR (fun _ _=>trivial) g3 (hI.obj k ob g1)
  .intro o o' ob ob' h h' hr hr' hb;rcases pR (μ:=μ) h with⟨l1,ob1,g1,rfl,g3⟩|⟨j,k,ob1,l1,q,g1,rfl,g3⟩<;>
   rcases pR (μ:=μ) h' with⟨l1',EN,g1',rfl,g3'⟩|⟨j',k',EN,l1',q',g1',rfl,g3'⟩<;>
   simp only[g3,g3']at hr hr' hb<;>
   have:=hI.inj _ _ ob1 EN g1 g1' ((Real.same (dO _ _ _ _)).1 hr) ((Real.same (dO _ _ _ _)).1 hr') hb
   .exact this
   .have:=hge k' (axT q');omega
   .have:=hge k (axT q);omega
   .subst this;have e1:=axK.1 q;have e2:=axK.1 q';have:j=j':=(azn hnn).1 (e1.2.trans e2.2.symm);omega
  .exact fun b h=>hI.own b (BI h)
  .exact hI.new
  .exact hI.mono
  .intro g p hg;obtain⟨h1,h2,h3⟩:=hI.glob g p hg;have hnt:∀ b,NT ⟨μ,H,w⟩ T dA b->NT ⟨nμ m new μ,Ej (Vh m new H) m new H,w⟩ T dA b:=fun b hb=>⟨hb.1,fun h=>hb.2.1 (BI h),hb.2.2⟩;exact⟨h1,hnt _ h2,jM (fun b hb=>⟨hnt b hb,fun _ _ h=>h⟩) p _ _ (fun _ _ h=>h) h3⟩
 .refine ⟨hE.lo,by simp only;rw[DF];omega,hE.size,hE.os,hE.tape,hE.output,fun o ho ob' h=>?_,fun b hb h=>hE.own b hb (BI h),hE.cells,hE.exact⟩;rcases pR (μ:=μ) h with⟨_,ob,g1,rfl,g3⟩|⟨j,k,ob,l1,_⟩
  .obtain ⟨ob0,h1,h2,h3⟩:=hE.obj o ho ob g1;refine⟨ob0,h1,h2,fun e=>?_⟩;obtain⟨h4,h5⟩:=h3 e;exact⟨g3.trans h4,h5.trans (dO _ _ _ ob)⟩
  .omega
 .rw [N7];exact aF.ren hR (fun _ _=>trivial) (hf i)
def Now.after(h:Now C T m K0 nt fr H a w)(f id:Nat):(jk C f m id fr H).ex=.normal/\Now C T m K0 nt (jk C f m id fr H).fr (jk C f m id fr H).H a w:=by
 have hk:Now C T m K0 nt (match C.keep f id with|some l=>dF l fr|none=>fr) H a w:=by
  split
  .exact h.keep _
  .exact h
 unfold jk;simp only;split
 .exact ⟨rfl,hk.norm⟩
 .exact ⟨rfl,hk⟩
end
def FEq(fr fr':Frame):Prop:=∀ i,aB fr i=aB fr' i
def FEq.put{fr fr':Frame}(h:FEq fr fr')(d:Option Nat)(v:AV):FEq (jU fr d v) (jU fr' d v):=by
 intro i;cases d with
 | none=>exact h i
 | some d=>simp only[jU,aB,h i]
def Jy(fr:Frame){d e:Option Nat}(v u:AV)(h:∀ i,d=some i->e≠some i):FEq (jU (jU fr d v) e u) (jU (jU fr e u) d v):=by
 intro i;cases d with
 | none=>rfl
 | some d=>
  cases e with
  | none=>rfl
  | some e=>
   have hne:e≠d:=fun x=>h d rfl (by rw[x]);simp only[jU,aB];by_cases h1:e=i
   .have h2:d≠i:=fun x=>hne (h1.trans x.symm);simp[h1,h2]
   .simp [h1]
def N8{fr:Frame}{d:Option Nat}{v:AV}{i:Nat}(h:d≠some i):aB (jU fr d v) i=aB fr i:=by
 cases d with
 | none=>rfl
 | some d=>
  have:d≠i:=fun x=>h (by rw[x]);simp[jU,aB,this]
section
variable {C:Ctx}{cf:Cf}{nt:Nat}{ops:Array Oper}
def Em{fr fr':Frame}{x:Operand}(h:∀ t,x=.tmp t->aB fr t=aB fr' t):aJ C fr x=aJ C fr' x:=by
 cases x<;>simp only[aJ];exact h _ rfl
def uj{fr fr':Frame}{x:Operand}{t:TypeId}(h:aJ C fr x=aJ C fr' x):gu C fr t x=gu C fr' t x:=by
 cases x<;>simp only[gu]<;>exact h
def sU{fr fr':Frame}:∀ {l:List Operand} {ts:List TypeId},(∀ x∈l,aJ C fr x=aJ C fr' x)->fA C fr l ts=fA C fr' l ts
 | [],_,_=>rfl
 | x::r,ts,h=>by
  simp only[fA];rw[sU (fun y hy=>h y (by simp[hy])),h x (by simp)];cases ts with
  | nil=>rfl
  | cons t ts=>simp only[uj (h x (by simp))]
def wJ{fr fr':Frame}{t:TypeId}:∀ {l:List (Nat×Operand)},(∀ x∈l,aJ C fr x.2=aJ C fr' x.2)->iJ C fr t l=iJ C fr' t l
 | [],_=>rfl
 | (i,x)::r,h=>by
  simp only[iJ];rw[wJ (fun y hy=>h y (by simp[hy])),uj (h (i,x) (by simp))]
def QJ{fr fr':Frame}{H:Heap}{o:Oper}(h:∀ x∈o.op.operands,aJ C fr x=aJ C fr' x):step C cf fr H o=step C cf fr' H o:=by
 obtain⟨dst,op,type,pos,after,guard⟩:=o;have hT:∀ t x,x∈op.operands->gu C fr t x=gu C fr' t x:=fun t x hx=>uj (h x hx);have parts:∀ (t:TypeId) (ps:Array (Nat×Operand)),(∀ x∈(ps.toList.map (·.2)).toArray,aJ C fr x=aJ C fr' x)->iJ C fr t ps.toList=iJ C fr' t ps.toList:=fun t ps hp=>
  wJ fun x hx=>hp x.2 (List.mem_toArray.2 (ayd.2 ⟨x,hx,rfl⟩))
 have omap:∀ (r:Option Operand),(∀ x,r=some x->aJ C fr x=aJ C fr' x)->r.map (aJ C fr)=r.map (aJ C fr'):=fun r hr=>by
  cases r with
  | none=>rfl
  | some x=>simp[hr x rfl]
 cases op<;>simp only[Op.operands]at h hT<;>simp only[step]
 case build t ps=>rw[parts 0 ps h]
 case buildSlice t n ps=>rw[parts _ ps h]
 case makeFunc fn first captured=>
  have:captured.toList.map (aJ C fr)=captured.toList.map (aJ C fr'):=ayC fun x hx=>h x (az2.2 (.inr (ay7.1 hx)));cases fn<;>simp only[this]
 case makeMap t r=>rw[omap r fun x hx=>h x (by simp[hx])]
 case slice t x lo hi mx=>rw[hT t x (by simp),omap lo fun y hy=>h y (by simp[hy]),omap hi fun y hy=>h y (by simp[hy])]
 case call c=>
  have hargs:∀ ts,fA C fr c.args.toList ts=fA C fr' c.args.toList ts:=fun ts=>sU fun x hx=>h x (az2.2 (.inr (ay7.1 hx)));simp only[uX];cases hc:c.callee with
  | builtin b=>simp only[hargs]
  | value x=>
   simp only[hargs];rw[h x (by simp[Call.operands,hc])]
  | invoke=>rfl
 all_goals
  first
  | rfl
  | (simp only[h _ (by simp:_∈_),hT _ _ (by simp:_∈_)];done)
  | (simp_all;done)
def xq(o:Oper)(r:List Oper)(fr:Frame)(H:Heap) :
 mG C cf nt ops (o::r) fr H=match out1 C cf nt ops o fr H with|some (v,H')=>mG C cf nt ops r (jU fr o.dst v) H' | none=>none:=by
 simp only[mG,out1];split
 .rcases lq ops fr o with _|_|_<;>rfl
 .rfl
def BJ{fr fr':Frame}{o:Oper}(h:∀ t∈looks ops o,aB fr t=aB fr' t):lq ops fr o=lq ops fr' o:=by
 unfold lq;cases hg:o.guard with
 | none=>rfl
 | some x=>
  obtain⟨j,want⟩:=x;simp only;cases hd:(ops[j]?).bind (·.dst)with
  | none=>rfl
  | some d=>simp only;rw[h d (by simp[looks,hg,hd])]
def zT{fr fr':Frame}{H:Heap}{o:Oper}(h:∀ t∈looks ops o,aB fr t=aB fr' t):out1 C cf nt ops o fr H=out1 C cf nt ops o fr' H:=by
 unfold out1;rw[BJ h,QJ fun x hx=>Em fun t ht=>h t ?_];subst ht;exact ayW _ (List.mem_filterMap.2 ⟨.tmp t,by simpa using hx,rfl⟩)
def Jz{fr:Frame}{H H':Heap}{o:Oper}{v:AV}(hf:nS C o=true)(h:step C cf fr H o=some (v,H')):H'=H/\∀ H2,step C cf fr H2 o=some (v,H2):=by
 obtain⟨dst,op,type,pos,after,guard⟩:=o;have keep:∀ {m:Option AV},(m.map fun v=>(v,H))=some (v,H')->H'=H/\∀ H2:Heap,(m.map fun v=>(v,H2))=some (v,H2):=by
  intro m hm;cases m with
  | none=>cases hm
  | some y=>
   simp only[axM,axH,axJ]at hm;obtain⟨rfl,rfl⟩:=hm;exact⟨rfl,fun _=>rfl⟩
 cases op<;>simp only[nS,axZ]at hf<;>simp only[step]at h ⊢
 case move x=>
  simp only[axH,axJ]at h;obtain⟨rfl,rfl⟩:=h;exact⟨rfl,fun _=>rfl⟩
 case assign x=>
  have:∀ H,ak C H type (gu C fr type x)=(gu C fr type x,H):=by
   intro H;unfold ak;split
   .rename_i e he;rw[he]at hf;cases hf
   .rfl
  rw[this]at h;simp only[axH,axJ]at h;obtain⟨rfl,rfl⟩:=h;exact⟨rfl,fun H2=>by rw[this]⟩
 case pick c x y=>
  split at h
  .rename_i d hd;simp only[axH,axJ]at h;obtain⟨rfl,rfl⟩:=h;exact⟨rfl,fun _=>rfl⟩
  .cases h
 case build t ps=>exact keep h
 case unOp op t x=>exact keep h
 case field t x n=>exact keep h
 case index t x ix=>exact keep h
 case extract t i=>
  split at h
  .exact keep h
  .cases h
 case makeFunc fn first caps=>
  cases fn<;>simp only at h ⊢
  case func f=>
   split at h
   .rename_i hc;simp only[axH,axJ]at h;obtain⟨rfl,rfl⟩:=h;exact⟨rfl,fun _=>by rw[if_pos hc]⟩
   .cases h
  all_goals cases h
 case binOp op t x y ne=>
  have hb:∀ H1 H2 a b,Iq C H1 op t a b x y=Iq C H2 op t a b x y:=by
   intro H1 H2 a b;have hn:∀ z,jW C t z=false:=by intro z;unfold kL at hf;unfold jW;split<;>simp_all
   have he:eqV C H1 t a b x y=eqV C H2 t a b x y:=by unfold eqV;split<;>first|rfl|simp[hn]
   unfold Iq;split
   .rfl
   .rfl
   .split
    .rw [he]
    .rw [he]
    .rfl
  obtain⟨h1,h2⟩:=keep h;exact⟨h1,fun H2=>by rw[hb H2 H];exact h2 H2⟩
 case convert s d x=>
  cases hd:und C d<;>rw[hd]at hf<;>simp only[axZ]at hf
  case int k=>
   unfold wI at h ⊢;split at h
   .cases h
   .rename_i hs;simp only[hd,hs]at h ⊢;split at h
    .rename_i k' k2 n e;simp only[axH,axJ]at h;obtain⟨rfl,rfl⟩:=h;refine⟨rfl,fun _=>?_⟩
     simp_all
    all_goals simp_all
 case call c=>
  cases hc:c.callee with
  | builtin b=>
   rw[hc]at hf;simp only[uX,hc]at h ⊢;cases b<;>simp only[axZ]at hf<;>
   (generalize fA C fr c.args.toList c.argTypes.toList=args at h ⊢
    cases args with
    | nil=>simp[kR]at h
    | cons y r=>simp only[kR]at h ⊢;exact keep h)
  | value x=>rw[hc]at hf;simp at hf
  | invoke r n=>rw[hc]at hf;simp at hf
def quiet_step{fr:Frame}{H H':Heap}{o:Oper}{v:AV}(hq:jY C o=true)(h:step C cf fr H o=some (v,H')):H'=H:=by
 by_cases hf:nS C o=true
 .exact (Jz hf h).1
 obtain⟨dst,op,type,pos,after,guard⟩:=o;have keep:∀ {m:Option AV},(m.map fun v=>(v,H))=some (v,H')->H'=H:=by
  intro m hm;cases m with
  | none=>cases hm
  | some y=>
   simp only[axM,axH,axJ]at hm;exact hm.2.symm
 cases op<;>simp only[jY]at hq<;>try exact absurd hq hf
 all_goals simp only[step]at h
 case buildSlice t n ps=>
  cases hu:und C t<;>rw[hu]at hq<;>simp only[axZ]at hq
  case slice e=>
   unfold bT at h;simp only[hu,hq,if_true]at h;split at h
   .split at h
    .cases h
    .split at h
     .exact keep h
     .cases h
   .cases h
 case load t x=>exact keep h
 case nilCheck x=>
  split at h
  .split at h
   .simp only[axH,axJ]at h;exact h.2.symm
   .cases h
  .simp only[axH,axJ]at h;exact h.2.symm
  .cases h
 case binOp op t x y ne=>exact keep h
 case convert s d x=>
  have key:∀ r,wI C H s d (gu C fr s x)=r->∀ v H',r=some (v,H')->H'=H:=by
   intro r hr v H' hv;unfold wI at hr
   repeat' (split at hr)
   all_goals (subst hr;first|(cases hv;done)|(simp only[axH,axJ]at hv;exact hv.2.symm))
  exact key _ h _ _ rfl
 case slice t x lo hi mx=>
  split at h
  .exact keep h
  .cases h
 case fieldAddr=>exact keep h
 case indexAddr=>exact keep h
 case lookup=>exact keep h
 case call c=>
  cases hc:c.callee with
  | builtin b=>
   rw[hc]at hq;simp only[uX,hc]at h;cases b<;>simp only[axZ]at hq
   all_goals
    unfold kR at h;split at h
    all_goals first|cases h|exact keep h|skip
    all_goals (first|(simp_all;done)|(simp_all;obtain⟨_,_,_,rfl⟩:=h;rfl))
  | value x=>rw[hc]at hq;simp at hq
  | invoke r n=>rw[hc]at hq;simp at hq
def QK{fr:Frame}{H H':Heap}{o:Oper}{v:AV}(hq:jY C o=true)(h:out1 C cf nt ops o fr H=some (v,H')):H'=H:=by
 unfold out1 at h;split at h
 .split at h
  .exact quiet_step hq h
  .simp only[axH,axJ]at h;exact h.2.symm
  .cases h
 .cases h
def Vj{fr:Frame}{H H':Heap}{o:Oper}{v:AV}(hf:nS C o=true)(h:out1 C cf nt ops o fr H=some (v,H')):H'=H/\∀ H2,out1 C cf nt ops o fr H2=some (v,H2):=by
 unfold out1 at h ⊢;split at h
 .rename_i hd;simp only[hd,if_true];split at h
  .rename_i hw;obtain⟨h1,h2⟩:=Jz hf h;exact⟨h1,h2⟩
  .rename_i hw;simp only[axH,axJ]at h;obtain⟨rfl,rfl⟩:=h;exact⟨rfl,fun _=>rfl⟩
  .cases h
 .cases h
def BK{x y:Oper}(h:oh ops x y=true):(∀ d,x.dst=some d->d∉looks ops y/\y.dst≠some d)/\(∀ d,y.dst=some d->d∉looks ops x):=by
 unfold oh at h;simp only[ax4]at h;obtain⟨h1,h2⟩:=h;refine⟨fun d hd=>?_,fun d hd=>?_⟩
 .rw [hd]at h1;simp at h1;exact h1
 .rw [hd]at h2;simp at h2;exact h2
def abv{fr fr':Frame}{o:Oper}(h:∀ t∈looks ops o,aB fr t=aB fr' t):∀ x∈o.op.operands,aJ C fr x=aJ C fr' x:=by
 intro x hx;refine Em fun t ht=>h t ?_;subst ht;exact ayW _ (List.mem_filterMap.2 ⟨.tmp t,by simpa using hx,rfl⟩)
def Lr{fr fr':Frame}{o:Oper}(h:∀ x∈o.op.operands,aJ C fr x=aJ C fr' x):iP C fr o=iP C fr' o:=by
 obtain⟨dst,op,type,pos,after,guard⟩:=o;cases op<;>try rfl
 case call c=>
  simp only[iP];cases hc:c.callee with
  | builtin b=>rfl
  | value x=>
   simp only;have hx:x∈(Call.operands c):=by simp[Call.operands,hc]
   have hargs:∀ ts,fA C fr c.args.toList ts=fA C fr' c.args.toList ts:=fun ts=>sU fun y hy=>h y (by
    simp only[Op.operands,Call.operands,hc];exact az2.2 (.inr (ay7.1 hy)))
   simp only[hargs];rw[h x hx]
  | invoke r n=>rfl
def Ls{fr fr':Frame}{o:Oper}(h:∀ x∈o.op.operands,aJ C fr x=aJ C fr' x):pushes C fr o=pushes C fr' o:=by
 obtain⟨dst,op,type,pos,after,guard⟩:=o;cases op<;>try rfl
 case assign x=>
  simp only[pushes];rw[uj (h x (by simp[Op.operands]))]
def zU{fr fr':Frame}{H H':Heap}{o:Oper}(h:∀ t∈looks ops o,aB fr t=aB fr' t):dw C ops fr H H' o=dw C ops fr' H H' o:=by
 have hx:=abv (C:=C) h;have hv:jr C fr o=jr C fr' o:=ayC fun x hx'=>hx x (by simpa using hx');unfold dw touched mentioned;rw[BJ h,hv,Lr hx,Ls hx]
inductive ais (C:Ctx) (cf:Cf) (nt:Nat) (ops:Array Oper) (o:Oper) (fr:Frame) (H:Heap) (v:AV) (H':Heap):Prop
 | free (hm:∀ H2,dw C ops fr H2 H2 o=.none) (he:H'=H) (ha:∀ H2,out1 C cf nt ops o fr H2=some (v,H2))
 | quiet (l:List Nat) (hm:∀ H2,dw C ops fr H2 H2 o=.look l) (he:H'=H) (ha:∀ H2:Heap,(∀ x∈l,H2[x]?=H[x]?)->out1 C cf nt ops o fr H2=some (v,H2))
 | loud (t:List Nat) (hm:dw C ops fr H H' o=.touch t H.length) (ho:Only t H H')
 | stay (t c:List Nat) (hm:dw C ops fr H H' o=.stay t c (eqH H H')) (ho:Only t H H') (hl:H'.length=H.length)
  (up:∀ ob,H.length∉c->out1 C cf nt ops o fr (H++[ob])=some (v,H'++[ob])/\dw C ops fr (H++[ob]) (H'++[ob]) o=.stay t c (eqH H H'))
  (down:∀ H0 ob,H=H0++[ob]->H0.length∉c->∃ H0',H'=H0'++[ob]/\H0'.length=H0.length/\out1 C cf nt ops o fr H0=some (v,H0')/\dw C ops fr H0 H0' o=.stay t c (eqH H H'))
 | push (ob:Option Obj) (hm:∀ H2:Heap,H2.length=H.length->dw C ops fr H2 (H2++[ob]) o=.push H.length) (he:H'=H++[ob]) (ha:∀ H2:Heap,H2.length=H.length->out1 C cf nt ops o fr H2=some (v,H2++[ob]))
def Vk{fr:Frame}{H H':Heap}{o:Oper}{v:AV}(hp:pushes C fr o=true)(h:step C cf fr H o=some (v,H')) :
 ∃ ob,H'=H++[ob]/\∀ H2:Heap,H2.length=H.length->step C cf fr H2 o=some (v,H2++[ob]):=by
 obtain⟨dst,op,type,pos,after,guard⟩:=o;cases op<;>simp only[pushes,axZ]at hp<;>simp only[step]at h ⊢
 case assign x=>
  split at hp
  .rename_i hv hu;simp only[hv,ak,hu,axH,axJ]at h ⊢;obtain⟨rfl,rfl⟩:=h;exact⟨_,rfl,fun H2 h2=>⟨by rw[h2],rfl⟩⟩
  .cases hp
 case alloc t=>
  cases hb:tY (bD C t)with
  | none=>rw[hb]at h;cases h
  | some p=>
   rw[hb]at h;simp only[jv,axM,axH,axJ]at h ⊢;obtain⟨rfl,rfl⟩:=h;exact⟨_,rfl,fun H2 h2=>⟨by rw[h2],rfl⟩⟩
 case box t x=>
  cases hb:tY (gu C fr t x)with
  | none=>rw[hb]at h;cases h
  | some p=>
   rw[hb]at h;simp only[ayY]at h ⊢;split at h
   .rename_i hc;simp only[jv,axH,axJ]at h;obtain⟨rfl,rfl⟩:=h;exact⟨_,rfl,fun H2 h2=>by rw[if_pos hc];simp[jv,h2]⟩
   .cases h
 case makeMap t r=>
  split at h
  .rename_i hc;simp only[uK,axH,axJ]at h;obtain⟨rfl,rfl⟩:=h;exact⟨_,rfl,fun H2 h2=>by rw[if_pos hc];simp[uK,h2]⟩
  .cases h
 case makeSlice t l c=>
  unfold fP at h ⊢;split at h
  .rename_i e l' c' hu hl hc;split at h
   .rename_i hk;cases hz:kF C e l'.toNat with
    | none=>rw[hz]at h;cases h
    | some p=>
     rw[hz]at h;simp only[axM,axH,axJ]at h;obtain⟨rfl,rfl⟩:=h;refine⟨_,rfl,fun H2 h2=>?_⟩;simp only[if_pos hk,axM,h2]
   .cases h
  .cases h
def N9(hcf:nU C cf){o:Oper}{fr:Frame}{H H':Heap}{v:AV}(h:out1 C cf nt ops o fr H=some (v,H')):ais C cf nt ops o fr H v H':=by
 by_cases hw:lq ops fr o=some true
 .have hstep:∀ {H2:Heap} {v2:AV} {H3:Heap},step C cf fr H2 o=some (v2,H3)->out1 C cf nt ops o fr H2=some (v2,H3):=by
   intro H2 v2 H3 hs;unfold out1 at h ⊢;split at h
   .rename_i hd;rw[if_pos hd,hw];exact hs
   .cases h
  have h0:step C cf fr H o=some (v,H'):=by
   unfold out1 at h;split at h
   .rw [hw]at h;exact h
   .cases h
  by_cases hf:nS C o=true
  .obtain ⟨h1,h2⟩:=Vj hf h;exact .free (fun H2=>by simp[dw,hw,hf]) h1 h2
  .by_cases hq:jY C o=true
   .have e:=QK hq h;exact .quiet (aC (jr C fr o)) (fun H2=>by simp[dw,hw,hf,hq]) e fun H2 hx=>hstep (Y8 hq (by simpa using hf) h0 hx)
   .by_cases hp:pushes C fr o=true
    .obtain ⟨ob,h1,h2⟩:=Vk hp h0;exact .push ob (fun H2 h3=>by simp[dw,hw,hf,hq,hp,h3]) h1 fun H2 h3=>hstep (h2 H2 h3)
    .by_cases ha:kK o=true
     .have hA:∃ x,o.op=.assign x:=by
       unfold kK at ha;split at ha
       .rename_i x hx;exact⟨x,hx⟩
       .cases ha
      obtain⟨x,hx⟩:=hA;have key:∀ H2:Heap,step C cf fr H2 o=some (gu C fr o.type x,H2):=by
       intro H2;simp only[step,hx];unfold ak;split
       .rename_i h1 h2;simp[pushes,hx,h1,h2]at hp
       .rfl
      rw[key H]at h0;simp only[axH,axJ]at h0;obtain⟨rfl,rfl⟩:=h0;exact .free (fun H2=>by simp[dw,hw,hf,hq,hp,ha]) rfl fun H2=>hstep (key H2)
     .by_cases hs:((iP C fr o).isSome&&H'.length==H.length)=true
      .simp only[ax4,beq_iff_eq]at hs;obtain⟨hs,hlen⟩:=hs;obtain⟨⟨f,args⟩,hcv⟩:=ayn.1 hs
       -- a call
       have hcall:∀ H2:Heap,step C cf fr H2 o=if bodied C f then cf f args H2 else none:=by
        intro H2;unfold iP at hcv;split at hcv
        .rename_i c hop;split at hcv
         .rename_i x ar7;split at hcv
          .rename_i f' caps he;simp only[axH,axJ]at hcv;obtain⟨rfl,rfl⟩:=hcv;simp only[step,hop,uX,ar7,he]
          .cases hcv
         .cases hcv
        .cases hcv
       have hbd:bodied C f=true:=by
        rw[hcall H]at h0;split at h0
        .assumption
        .cases h0
       have QL:∀ H2:Heap,step C cf fr H2 o=cf f args H2:=fun H2=>by rw[hcall H2,if_pos hbd]
       have h1:cf f args H=some (v,H'):=by rw[<- QL H];exact h0
       obtain⟨hup,hdown⟩:=hcf.2 f args H v H' h1 hlen;have ht:∀ H2:Heap,touched C fr H2 o=gK C f args H2:=fun H2=>by simp only[touched,hcv]
       have hme:∀ H2:Heap,mentioned C fr H2 o=dM C f args H2:=fun H2=>by simp only[mentioned,hcv]
       have hmk:∀ H2 H3:Heap,H3.length=H2.length->dw C ops fr H2 H3 o=.stay (gK C f args H2) (dM C f args H2) (eqH H2 H3):=fun H2 H3 h3=>by
        simp[dw,hw,hf,hq,hp,ha,hcv,h3,ht,hme]
       refine .stay _ _ (hmk H H' hlen) ?_ hlen ?_ ?_
       .rw [<- ht];exact Jr hcf.1 h0
       .intro ob hn;obtain⟨_,e1,e2,_⟩:=xQ (C:=C) (But.push H ob) hn;refine⟨hstep (by rw[QL];exact hup ob hn),?_⟩;rw[hmk _ _ (by simp[hlen]),e1,e2,Nk]
       .intro H0 ob he hn;subst he;obtain⟨H0',h2,h3,h4⟩:=hdown H0 ob rfl hn;obtain⟨_,e1,e2,_⟩:=xQ (C:=C) (But.pop H0 ob) hn;refine⟨H0',h2,h3,hstep (by rw[QL];exact h4),?_⟩;rw[hmk _ _ h3,e1,e2,h2,Nk]
      .exact .loud (touched C fr H o) (by simp[dw,hw,hf,hq,hp,ha];simpa using hs) (Jr hcf.1 h0)
 .have hm:∀ H2,dw C ops fr H2 H2 o=.none:=fun H2=>by
   unfold dw;split
   .rename_i hw';exact absurd hw' hw
   .rfl
  unfold out1 at h;split at h
  .rename_i hd;split at h
   .rename_i hw';exact absurd hw' hw
   .rename_i hw';simp only[axH,axJ]at h;obtain⟨rfl,rfl⟩:=h;exact .free hm rfl fun H2=>by simp[out1,hd,hw']
   .cases h
  .cases h
def zk{l t:List Nat}{n:Nat}(h:oZ l t n=true):∀ x∈l,x∉t/\x<n:=by
 unfold oZ at h;simp only[ax4,ax5,decide_eq_true_eq]at h;exact fun x hx=>⟨iT.1 h.1 x hx,h.2 x hx⟩
def Only.stay{l t:List Nat}{H H':Heap}(ho:Only t H H')(hl:H'.length=H.length)(hd:disjoint l t=true):∀ z∈l,H'[z]?=H[z]?:=by
 intro z hz;by_cases h:z<H.length
 .exact ho.2 z h (iT.1 hd z hz)
 .rw [ax0 (by omega),ax0 (by omega)]
def TG{l:List Nat}{H:Heap}{ob:Option Obj}(hd:(!l.contains H.length)=true):∀ z∈l,(H++[ob])[z]?=H[z]?:=by
 intro z hz;refine But.push H ob z fun e=>?_;subst e;simp[hz]at hd
def ait(hcf:nU C cf){x y:Oper}{fr:Frame}{H H1 H2:Heap}{v u:AV}(hxy:oh ops x y=true)(hb:bear (dw C ops fr H H1 x) (dw C ops (jU fr x.dst v) H1 H2 y)=true)
 (hx:out1 C cf nt ops x fr H=some (v,H1))(hy:out1 C cf nt ops y (jU fr x.dst v) H1=some (u,H2)) :
 ∃ H1',out1 C cf nt ops y fr H=some (u,H1')/\out1 C cf nt ops x (jU fr y.dst u) H1'=some (v,H2) /\
  dw C ops fr H H1' y=dw C ops (jU fr x.dst v) H1 H2 y/\dw C ops (jU fr y.dst u) H1' H2 x=dw C ops fr H H1 x:=by
 obtain⟨h1,h2⟩:=BK hxy;have hyl:∀ t∈looks ops y,aB (jU fr x.dst v) t=aB fr t:=fun t ht=>N8 fun e=>(h1 t e).1 ht;have hxl:∀ t∈looks ops x,aB (jU fr y.dst u) t=aB fr t:=fun t ht=>N8 fun e=>h2 t e ht;rw[zT hyl]at hy;have hy':∀ H H',dw C ops (jU fr x.dst v) H H' y=dw C ops fr H H' y:=fun H H'=>zU hyl;have hx':∀ H,out1 C cf nt ops x (jU fr y.dst u) H=out1 C cf nt ops x fr H:=fun H=>zT hxl;have hx'':∀ H H',dw C ops (jU fr y.dst u) H H' x=dw C ops fr H H' x:=fun H H'=>zU hxl;simp only[hy']at hb;simp only[hx',hx'',hy'];rcases N9 hcf hx with⟨hm,rfl,ha⟩|⟨l,hm,rfl,ha⟩|⟨t,hm,ho⟩|⟨t,c,hm,ho,hl,up,down⟩|⟨ob,hm,rfl,ha⟩
 .exact ⟨H2,hy,ha H2,rfl,by rw[hm,hm]⟩
 .rcases N9 hcf hy with⟨hm2,rfl,ha2⟩|⟨l2,hm2,rfl,ha2⟩|⟨t2,hm2,ho2⟩|⟨t2,c2,hm2,ho2,hl2,up2,TI⟩|⟨ob2,hm2,rfl,ha2⟩
  .exact ⟨_,ha2 _,hx,rfl,rfl⟩
  .exact ⟨_,hy,hx,rfl,rfl⟩
  .rw [hm,hm2]at hb;have hl:=zk (by simpa[bear]using hb);exact⟨H2,hy,ha H2 fun z hz=>ho2.2 z (hl z hz).2 (hl z hz).1,rfl,by rw[hm,hm]⟩
  .rw [hm,hm2]at hb;rcases Bool.or_eq_true_iff.1 (show(_||_)=true from hb)with hb|hb
   .exact ⟨H2,hy,ha H2 (ho2.stay hl2 hb),rfl,by rw[hm,hm]⟩
   .obtain rfl:=zK hb;exact⟨_,hy,hx,rfl,rfl⟩
  .rw [hm,hm2 _ rfl]at hb;exact⟨_,hy,ha _ (TG hb),rfl,by rw[hm,hm]⟩
 .rcases N9 hcf hy with⟨hm2,rfl,ha2⟩|⟨l2,hm2,rfl,ha2⟩|⟨t2,hm2,ho2⟩|⟨t2,c2,hm2,ho2,hl2,up2,TI⟩|⟨ob2,hm2,rfl,ha2⟩
  .exact ⟨H,ha2 H,hx,by rw[hm2,hm2],rfl⟩
  .rw [hm,hm2]at hb;have hl:=zk (by simpa[bear]using hb);exact⟨H,ha2 H fun z hz=>(ho.2 z (hl z hz).2 (hl z hz).1).symm,hx,by rw[hm2,hm2],rfl⟩
  .rw [hm,hm2]at hb;simp[bear]at hb
  .rw [hm,hm2]at hb;simp[bear]at hb
  .rw [hm,hm2 _ rfl]at hb;simp[bear]at hb
 .rcases N9 hcf hy with⟨hm2,rfl,ha2⟩|⟨l2,hm2,rfl,ha2⟩|⟨t2,hm2,ho2⟩|⟨t2,c2,hm2,ho2,hl2,up2,TI⟩|⟨ob2,hm2,rfl,ha2⟩
  .exact ⟨H,ha2 H,hx,by rw[hm2,hm2],rfl⟩
  .rw [hm,hm2]at hb;rcases Bool.or_eq_true_iff.1 (show(_||_)=true from hb)with hb|hb
   .exact ⟨H,ha2 H fun z hz=>(ho.stay hl hb z hz).symm,hx,by rw[hm2,hm2],rfl⟩
   .obtain rfl:=zK hb;exact⟨_,hy,hx,rfl,rfl⟩
  .rw [hm,hm2]at hb;simp[bear]at hb
  .rw [hm,hm2]at hb;have hb:=Bool.and_eq_true_iff.1 (show(_&&_)=true from hb);obtain rfl:=zK hb.1;obtain rfl:=zK hb.2;exact⟨_,hy,hx,rfl,rfl⟩
  .rw [hm,hm2 _ rfl]at hb;have hn:H.length∉c:=by rw[<- hl];simpa[bear]using hb
   obtain⟨h3,h4⟩:=up ob2 hn;exact⟨H++[ob2],ha2 H hl.symm,h3,by rw[hm2 H hl.symm,hm2 _ rfl],by rw[h4,hm]⟩
 .rcases N9 hcf hy with⟨hm2,rfl,ha2⟩|⟨l2,hm2,rfl,ha2⟩|⟨t2,hm2,ho2⟩|⟨t2,c2,hm2,ho2,hl2,up2,TI⟩|⟨ob2,hm2,rfl,ha2⟩
  .exact ⟨H,ha2 H,hx,by rw[hm2,hm2],rfl⟩
  .rw [hm _ rfl,hm2]at hb;exact⟨H,ha2 H fun z hz=>(TG hb z hz).symm,hx,by rw[hm2,hm2],rfl⟩
  .rw [hm _ rfl,hm2]at hb;simp[bear]at hb
  .rw [hm _ rfl,hm2]at hb;have hn:H.length∉c2:=by simpa[bear]using hb
   obtain⟨H0',h3,h4,h5,h6⟩:=TI H ob rfl hn;subst h3;exact⟨H0',h5,ha H0' h4,by rw[h6,hm2],by rw[hm _ h4,hm _ rfl]⟩
  .rw [hm _ rfl,hm2 _ rfl]at hb;simp[bear]at hb
def Ob:∀ {l:List Oper} {fr fr2:Frame} {H:Heap} {fr':Frame} {H':Heap} {ms:List Mark},FEq fr fr2->jX C cf nt ops l fr H=some (fr',H',ms)->∃ abw,jX C cf nt ops l fr2 H=some (abw,H',ms)/\FEq abw fr'
 | [],fr,fr2,H,fr',H',ms,he,h=>by
  simp only[jX,axH,axJ]at h;obtain⟨rfl,rfl,rfl⟩:=h;exact⟨fr2,rfl,fun i=>(he i).symm⟩
 | o::r,fr,fr2,H,fr',H',ms,he,h=>by
  simp only[jX]at h ⊢;have hmk:∀ H H',dw C ops fr2 H H' o=dw C ops fr H H' o:=fun H H'=>(zU (fr:=fr) fun t _=>he t).symm;rw[<- zT (fr:=fr) fun t _=>he t];simp only[hmk];split at h
  .rename_i v H1 hv;split at h
   .rename_i fr1 H2 ms' hr;simp only[axH,axJ]at h;obtain⟨rfl,rfl,rfl⟩:=h;obtain⟨abw,h1,h2⟩:=Ob (he.put o.dst v) hr;exact⟨abw,by simp only[h1],h2⟩
   .cases h
  .cases h
def opAt(ops:Array Oper)(i:Nat):Oper:=ops.getD i default
def front(hcf:nU C cf){mk:Nat->Mark}{i:Nat}{B:List Nat}:∀ {A:List Nat} {fr:Frame} {H:Heap} {fr':Frame} {H':Heap},
 jX C cf nt ops ((A++i::B).map (opAt ops)) fr H=some (fr',H',(A++i::B).map mk)->(∀ j∈A,oh ops (opAt ops j) (opAt ops i)=true/\bear (mk j) (mk i)=true) ->
 ∃ v H1,out1 C cf nt ops (opAt ops i) fr H=some (v,H1)/\dw C ops fr H H1 (opAt ops i)=mk i /\
  ∃ aem,jX C cf nt ops ((A++B).map (opAt ops)) (jU fr (opAt ops i).dst v) H1=some (aem,H',(A++B).map mk)/\FEq aem fr'
 | [],fr,H,fr',H',h,_=>by
  simp only[ax8,ax9,jX]at h;split at h
  .rename_i v H1 hv;split at h
   .rename_i fr1 H2 ms hr;simp only[axH,axJ,ay3]at h;obtain⟨rfl,rfl,h1,rfl⟩:=h;exact⟨v,H1,hv,h1,fr1,hr,fun _=>rfl⟩
   .cases h
  .cases h
 | a::A,fr,H,fr',H',h,hA=>by
  simp only[ayj,ax9,jX]at h;split at h
  .rename_i u Ha hu;split at h
   .rename_i fr1 H2 ms hr;simp only[axH,axJ,ay3]at h;obtain⟨rfl,rfl,hma,rfl⟩:=h;obtain⟨v,H1,h1,hmi,aem,h2,h3⟩:=front hcf hr fun j hj=>hA j (by simp[hj]);obtain⟨hap,hbr⟩:=hA a (by simp);obtain⟨H1',h4,h5,h6,h7⟩:=ait hcf hap (by rw[hma,hmi];exact hbr) hu h1;have hne:∀ k,(opAt ops a).dst=some k->(opAt ops i).dst≠some k:=fun k hk=>((BK hap).1 k hk).2;obtain⟨fr3,h8,h9⟩:=Ob (Jy fr u v hne) h2;refine⟨v,H1',h4,h6.trans hmi,fr3,?_,fun k=>(h9 k).trans (h3 k)⟩;simp only[ayj,ax9,jX];rw[h5];simp only[h8,h7,hma]
   .cases h
  .cases h
def TJ:∀ {l:List Oper} {fr:Frame} {H:Heap} {fr':Frame} {H':Heap},mG C cf nt ops l fr H=some (fr',H')->∃ ms,jX C cf nt ops l fr H=some (fr',H',ms)
 | [],fr,H,fr',H',h=>by
  simp only[mG,axH,axJ]at h;obtain⟨rfl,rfl⟩:=h;exact⟨[],rfl⟩
 | o::r,fr,H,fr',H',h=>by
  rw[xq]at h;simp only[jX];split at h
  .rename_i v H1 hv;obtain⟨ms,hm⟩:=TJ h;refine⟨dw C ops fr H H1 o::ms,?_⟩;rw[hv];simp only[hm]
  .cases h
def pU:∀ {l:List Oper} {fr:Frame} {H:Heap} {fr':Frame} {H':Heap} {ms:List Mark},jX C cf nt ops l fr H=some (fr',H',ms) ->
 ms.length=l.length/\∀ (i:Nat) (o:Oper) (m:Mark),l[i]?=some o->ms[i]?=some m->∃ fr H H',m=dw C ops fr H H' o
 | [],fr,H,fr',H',ms,h=>by
  simp only[jX,axH,axJ]at h;obtain⟨_,_,rfl⟩:=h;simp
 | o::r,fr,H,fr',H',ms,h=>by
  simp only[jX]at h;split at h
  .split at h
   .rename_i hr;simp only[axH,axJ]at h;obtain⟨_,_,rfl⟩:=h;obtain⟨h1,h2⟩:=pU hr;refine⟨by simp[h1],fun i p m hp hm=>?_⟩;cases i with
    | zero=>
     simp only[ayf,axH]at hp hm;subst hp;subst hm;exact⟨fr,H,_,rfl⟩
    | succ i=>exact h2 i p m (by simpa using hp) (by simpa using hm)
   .cases h
  .cases h
def JA{fr:Frame}{H H':Heap}{o:Oper}(h:nS C o=true):dw C ops fr H H' o=.none:=by
 unfold dw;split<;>simp[h]
def GY{fr:Frame}{H H':Heap}{o:Oper}(h:jY C o=true):dw C ops fr H H' o=.none\/∃ l,dw C ops fr H H' o=.look l:=by
 unfold dw;split
 .split
  .exact .inl rfl
  .exact .inr ⟨aC (jr C fr o),rfl⟩
 .exact .inl rfl
def Oe{x y:Oper}(h:Qr C ops x y=true)(fr fr':Frame)(H H2 H' H3:Heap):oh ops x y=true/\bear (dw C ops fr H H2 x) (dw C ops fr' H' H3 y)=true:=by
 unfold Qr at h;simp only[ax4,ayV]at h;refine⟨h.1,?_⟩;rcases h.2 with(h|h)|⟨h1,h2⟩
 .rw [JA h];cases dw C ops fr' H' H3 y<;>rfl
 .rw [JA h];cases dw C ops fr H H2 x<;>rfl
 .rcases GY (ops:=ops) (fr:=fr) (H:=H) (H':=H2) h1 with e|⟨l,e⟩<;>rcases GY (ops:=ops) (fr:=fr') (H:=H') (H':=H3) h2 with e2|⟨l2,e2⟩<;>rw[e,e2]<;>rfl
end
section before
def BL{α β:Type}(m:Array β->α->β):∀ (l:List α) (acc:Array β),
 (l.foldl (fun acc o=>acc.push (m acc o)) acc).size=acc.size+l.length /\
 (∀ k,k<acc.size->(l.foldl (fun acc o=>acc.push (m acc o)) acc)[k]?=acc[k]?) /\
 ∀ k o,l[k]?=some o->∃ acc':Array β,acc'.size=acc.size+k/\(∀ j,j<acc'.size->(l.foldl (fun acc o=>acc.push (m acc o)) acc)[j]?=acc'[j]?) /\
  (l.foldl (fun acc o=>acc.push (m acc o)) acc)[acc.size+k]?=some (m acc' o)
 | [],acc=>⟨by simp,fun _ _=>rfl,fun k o h=>by simp at h⟩
 | a::r,acc=>by
  obtain⟨h1,h2,h3⟩:=BL m r (acc.push (m acc a));simp only[azQ];refine⟨by rw[h1];simp;omega,fun k hk=>?_,fun k o h=>?_⟩
  .rw [h2 k (by simp;omega),azT hk,azf hk]
  .cases k with
   | zero=>
    simp only[ayf,axH]at h;subst h;refine⟨acc,rfl,fun j hj=>?_,?_⟩
    .rw [h2 j (by simp;omega),azT hj,azf hj]
    .rw [h2 _ (by simp)];simp
   | succ k=>
    simp only[axX]at h;obtain⟨acc',h4,h5,h6⟩:=h3 k o h;simp only[Array.size_push]at h4 h6;exact⟨acc',by omega,h5,by rw[show acc.size+(k+1)=acc.size+1+k by omega];exact h6⟩
def Og{acc:Array Nat}{j:Nat}:∀ (l:List Edge) (s0:Nat),((l.foldl (fun s e=>if Region.binds .any e then s||| 2 ^ e.on||| acc.getD e.on 0 else s) s0).testBit j)=true ->
 s0.testBit j=true\/∃ e∈l,Region.binds .any e=true/\(j=e.on\/(acc.getD e.on 0).testBit j=true)
 | [],s0,h=>.inl h
 | e::r,s0,h=>by
  simp only[azQ]at h;rcases Og r _ h with h|⟨e',h1,h2⟩
  .split at h
   .rename_i hb;rw[Nat.testBit_or,Nat.testBit_or,Nat.testBit_two_pow]at h;simp only[ayV,decide_eq_true_eq]at h;rcases h with(h|h)|h
    .exact .inl h
    .exact .inr ⟨e,by simp,hb,.inl h.symm⟩
    .exact .inr ⟨e,by simp,hb,.inr h⟩
   .exact .inl h
  .exact .inr ⟨e',by simp[h1],h2⟩
def GZ{ops:Array Oper}{i j:Nat}{o:Oper}(hi:ops[i]?=some o)(he:Fj i o=true)(h:((Region.before ops).getD i 0).testBit j=true) :
 ∃ e∈o.after.toList,Region.binds .any e=true/\(j=e.on\/((Region.before ops).getD e.on 0).testBit j=true):=by
 have hfold:=BL (fun(acc:Array Nat) (o:Oper)=>o.after.foldl (fun s e=>if Region.binds .any e then s||| 2 ^ e.on||| acc.getD e.on 0 else s) 0) ops.toList #[];have hb:Region.before ops=ops.toList.foldl (fun acc o=>acc.push (o.after.foldl (fun s e=>if Region.binds .any e then s||| 2 ^ e.on||| acc.getD e.on 0 else s) 0)) #[]:=by unfold Region.before;rw[Array.foldl_toList]
 rw[<- hb]at hfold;obtain⟨_,_,h3⟩:=hfold;obtain⟨acc',h4,h5,h6⟩:=h3 i o (by rw[ayr];exact hi);simp only[azd,ax3,ayg]at h4 h6;rw[ayp,h6,ayv,<- Array.foldl_toList]at h;rcases Og _ _ h with h|⟨e,h7,h8,h9⟩
 .simp at h
 .refine ⟨e,h7,h8,?_⟩;rcases h9 with h9|h9
  .exact .inl h9
  .right
   have hlt:e.on<i:=by unfold Fj at he;have:=ax5.1 he e h7;simpa[h8]using this
   rw[ayp,h5 e.on (by omega),<- ayp];exact h9
def qy:∀ {l:List Oper} {k:Nat},lV k l=true->∀ (i:Nat) (o:Oper),l[i]?=some o->Fj (k+i) o=true
 | [],k,_,i,o,h=>by simp at h
 | a::r,k,he,i,o,h=>by
  simp only[lV,ax4]at he;cases i with
  | zero=>
   simp only[ayf,axH]at h;subst h;exact he.1
  | succ i=>
   have:=qy he.2 i o (by simpa using h)
   rwa [show k+(i+1)=k+1+i by omega]
end before
section
variable {C:Ctx}{cf:Cf}{T:Nat->Nat->Prop}{m nt:Nat}{K0:Kx}{ops:Array Oper}
def Now.feq{fr fr':Frame}{H:Heap}{a:Act}{w:World}(h:Now C T m K0 nt fr H a w)(he:FEq fr fr'):Now C T m K0 nt fr' H a w:=by
 obtain⟨μ,hI,hE,hf,hn,hd⟩:=h;exact⟨μ,hI,hE,fun i=>by rw[<- he i];exact hf i,hn,hd⟩
def rest(ops:Array Oper)(listed:Array Bool):List Nat:=(List.range ops.size).filter fun i=>!listed.getD i true
def jf{i:Nat}(h:i<ops.size):ops[i]?=some (opAt ops i):=by
 simp[opAt,ayp,h]
def lW{listed:Array Bool}{i:Nat}:i∈rest ops listed ↔ i<ops.size/\listed.getD i true=false:=by
 simp[rest]
def En(listed:Array Bool):(rest ops listed).Pairwise (·<·):=List.Pairwise.filter _ List.pairwise_lt_range
def mem_ready{listed:Array Bool}{i:Nat}:i∈Region.ready .any ops listed ↔ i∈rest ops listed/\((ops[i]?).map (·.after.all fun e=>!Region.binds .any e||listed.getD e.on false)).getD false=true:=by
 unfold Region.ready;rw[ay5,lW];simp only[ayh,ax4,azW];exact and_assoc.symm
def zV{listed:Array Bool}{i:Nat}(h:i<listed.size):listed.getD i true=listed.getD i false:=by
 simp[ayp,h]
def xR{listed:Array Bool}(hs:listed.size=ops.size)(hed:lV 0 ops.toList=true){i:Nat}{r:List Nat}(h:rest ops listed=i::r):i∈Region.ready .any ops listed:=by
 have hi:i∈rest ops listed:=by rw[h];simp
 obtain⟨h1,h2⟩:=lW.1 hi;refine mem_ready.2 ⟨hi,?_⟩;rw[jf h1];simp only[axM,ayv,azJ,ayV,azW];intro e he;by_cases hb:Region.binds .any e=true
 .right
  have hok:=qy hed i (opAt ops i) (by rw[ayr];exact jf h1);rw[ayg]at hok;have hlt:e.on<i:=by have:=ax5.1 hok e (ay7.2 he);simpa[hb]using this
  rw[<- zV (by omega)];by_cases hl:listed.getD e.on true=true
  .exact hl
  .exfalso;have hm:e.on∈rest ops listed:=lW.2 ⟨by omega,by simpa using hl⟩;have hso:=En (ops:=ops) listed;rw[h]at hm hso;rcases ax2.1 hm with h4|h4
   .omega
   .have:=(List.pairwise_cons.1 hso).1 _ h4;omega
 .left
  simpa using hb
def Closed(ops:Array Oper)(listed:Array Bool):Prop:=∀ i,i<ops.size->listed.getD i false=true->∀ j,((Region.before ops).getD i 0).testBit j=true->listed.getD j false=true
def sV{listed:Array Bool}{i j:Nat}{d:Bool}(hi:i<listed.size):(listed.setIfInBounds i true).getD j d=if j=i then true else listed.getD j d:=by
 simp only[ayp];split
 .rename_i h;subst h;simp[hi]
 .rename_i h;rw[azN (ax6 h)]
def any_ok(hcf:CX C cf)(hct:nU C cf)(hed:lV 0 ops.toList=true){mk:Nat->Mark}(b:Nat)
 (Za:∀ i j,b<=i->i<j->j<ops.size->((Region.before ops).getD j 0).testBit i=true\/(oh ops (opAt ops i) (opAt ops j)=true/\bear (mk i) (mk j)=true)){Q:Exit->Act->World->Prop}{fr':Frame}{H':Heap}(hQ:∀ a' w',Now C T m K0 nt fr' H' a' w'->Q .normal a' w') :
 ∀ (fuel:Nat) (listed:Array Bool) (fr fr1:Frame) (H:Heap) (a:Act) (w:World),listed.size=ops.size->(∀ i,i<b->listed.getD i false=true)->Closed ops listed->(rest ops listed).length<=fuel ->
  jX C cf nt ops ((rest ops listed).map (opAt ops)) fr H=some (fr1,H',(rest ops listed).map mk)->FEq fr1 fr'->Now C T m K0 nt fr H a w->wpAny C.P .any ops Q fuel listed a w:=by
 -- all listed
 have done:∀ (listed:Array Bool) (fr fr1:Frame) (H:Heap) (a:Act) (w:World),rest ops listed=[]->jX C cf nt ops ((rest ops listed).map (opAt ops)) fr H=some (fr1,H',(rest ops listed).map mk)->FEq fr1 fr' ->
  Now C T m K0 nt fr H a w->Q .normal a w:=by
  intro listed fr fr1 H a w hr h he hN;rw[hr]at h;simp only[aye,jX,axH,axJ]at h;obtain⟨rfl,rfl,_⟩:=h;exact hQ a w (hN.feq he)
 intro fuel;induction fuel with
 | zero=>
  intro listed fr fr1 H a w hs hbl hcl hlen h he hN;have hr:rest ops listed=[]:=ayk (Nat.le_zero.1 hlen);refine⟨?_,done listed fr fr1 H a w hr h he hN⟩;cases hrd:Region.ready .any ops listed with
  | nil=>rfl
  | cons i r=>
   have:i∈Region.ready .any ops listed:=by rw[hrd];simp
   have:=(mem_ready.1 this).1;rw[hr]at this;simp at this
 | succ fuel ih=>
  intro listed fr fr1 H a w hs hbl hcl hlen h he hN;refine⟨fun hrd=>?_,fun i hi=>?_⟩
  .have hr:rest ops listed=[]:=by
    cases hr:rest ops listed with
    | nil=>rfl
    | cons i r=>
     have:=xR hs hed hr;rw[hrd]at this;simp at this
   exact done listed fr fr1 H a w hr h he hN
  .obtain ⟨hir,G5⟩:=mem_ready.1 hi;obtain⟨hlt,hnl⟩:=lW.1 hir;obtain⟨A,B,hAB⟩:=List.append_of_mem hir;have hso:=En (ops:=ops) listed;rw[hAB]at hso;have hA:∀ j∈A,j<i:=fun j hj=>(List.pairwise_append.1 hso).2.2 j hj i (by simp);have hB:∀ j∈B,i<j:=fun j hj=>(List.pairwise_cons.1 (List.pairwise_append.1 hso).2.1).1 j hj;rw[jf hlt]at G5;simp only[axM,ayv,azJ,ayV,azW]at G5;have hok:=qy hed i (opAt ops i) (by rw[ayr];exact jf hlt);rw[ayg]at hok
   -- what lies before i is listed
   have hbef:∀ j,((Region.before ops).getD i 0).testBit j=true->listed.getD j false=true:=by
    intro j hj;obtain⟨e,h1,h2,h3⟩:=GZ (jf hlt) hok hj;have he1:listed.getD e.on false=true:=by
     rcases G5 e (ay7.1 h1)with h4|h4
     .rw [h2]at h4;cases h4
     .exact h4
    rcases h3 with rfl|h3
    .exact he1
    .have hlt2:e.on<i:=by have:=ax5.1 hok e h1;simpa[h2]using this
     exact hcl e.on (by omega) he1 j h3
   have hfree:∀ j∈A,oh ops (opAt ops j) (opAt ops i)=true/\bear (mk j) (mk i)=true:=by
    intro j hj;have hbj:b<=j:=by
     refine Nat.le_of_not_lt fun hlt2=>?_;have hjr:j∈rest ops listed:=by rw[hAB];simp[hj]
     have h3:=lW.1 hjr;rw[zV (by omega)]at h3;have:=hbl j hlt2;rw[h3.2]at this;cases this
    rcases Za j i hbj (hA j hj) hlt with h1|h1
    .have h2:=hbef j h1;have hjr:j∈rest ops listed:=by rw[hAB];simp[hj]
     have h3:=(lW.1 hjr).2;rw[zV (by have:=(lW.1 hjr).1;omega)]at h3;rw[h3]at h2;cases h2
    .exact h1
   rw[hAB]at h;obtain⟨v,H1,h1,_,fr2,h2,h3⟩:=front hct h hfree;have hrest:rest ops (listed.setIfInBounds i true)=A++B:=by
    have e1:rest ops (listed.setIfInBounds i true)=(rest ops listed).filter (fun j=>decide (j≠i)):=by
     unfold rest;rw[List.filter_filter];refine List.filter_congr fun j hj=>?_;rw[sV (by omega)];by_cases hji:j=i
     .simp [hji]
     .simp [hji]
    rw[e1,hAB,List.filter_append,azo];simp only[ne_eq,not_true_eq_false,decide_false,axZ,if_false];congr 1
    .exact aze.2 fun j hj=>by have:=hA j hj;simp;omega
    .exact aze.2 fun j hj=>by have:=hB j hj;simp;omega
   have next:∀ a' w',Now C T m K0 nt (jU fr (opAt ops i).dst v) H1 a' w'->wpAny C.P .any ops Q fuel (listed.setIfInBounds i true) a' w':=by
    intro a' w' hN';refine ih _ _ fr2 H1 a' w' (by simp[hs]) (fun i hi=>by rw[sV (by omega)];split<;>first|rfl|exact hbl i hi) ?_ ?_ ?_ (fun k=>(h3 k).trans (he k)) hN'
    .intro k hk hkl j hj;rw[sV (by omega)]at hkl ⊢;split
     .rfl
     .split at hkl
      .rename_i hki;subst hki;exact hbef j hj
      .exact hcl k hk hkl j hj
    .rw [hrest];have:(rest ops listed).length=A.length+B.length+1:=by rw[hAB];simp;omega
     simp;omega
    .rw [hrest];exact h2
   unfold wpOp;rw[jf hlt];simp only;obtain⟨μ,hI,hE0,hf,hn,hdf⟩:=id hN;unfold out1 at h1;split at h1
   .rename_i hdst;split at h1
    .rename_i hw;rw[yR hf hw];simp only[if_true]
     left
     exact Ju hcf rfl h1 hN hdst fun u w' hN'=>next _ _ hN'
    .rename_i hw;rw[yR hf hw];simp only[axZ,if_false];simp only[axH,axJ]at h1;obtain⟨rfl,rfl⟩:=h1;exact next _ _ (NZ hN hdst)
    .cases h1
   .cases h1
def map_range{ops:Array Oper}:(List.range ops.size).map (opAt ops)=ops.toList:=by
 apply ayL;intro i;rw[axP];by_cases h:i<ops.size
 .rw [ayJ h,ayr,jf h];rfl
 .simp [h]
def Oh(hcf:CX C cf)(hct:nU C cf)(uV:C.P.follows .mixedOrders=true)(hed:lV 0 ops.toList=true){fr fr':Frame}{H H':Heap}{ms:List Mark}{a:Act}{w:World}{id:Nat}{Q:Exit->Act->World->Prop}
 (Za:∀ i j,i<j->j<ops.size->((Region.before ops).getD j 0).testBit i=true\/(oh ops (opAt ops i) (opAt ops j)=true/\bear (ms.getD i .none) (ms.getD j .none)=true))
 (h:jX C cf nt ops ops.toList fr H=some (fr',H',ms))(hN:Now C T m K0 nt fr H a w)(hQ:∀ a' w',Now C T m K0 nt fr' H' a' w'->Q .normal a' w'):(Code.region id ops true).wp C.P Q a w:=by
 refine wp_region_any uV ?_;have hall:rest ops (Array.replicate ops.size false)=List.range ops.size:=by unfold rest;exact aze.2 fun i hi=>by simp[ayp,ayh.1 hi]
 have hms:(List.range ops.size).map (fun i=>ms.getD i .none)=ms:=by
  have hlen:=(pU h).1;apply ayL;intro i;rw[axP];by_cases hi:i<ops.size
  .rw [ayJ hi];have:i<ms.length:=by rw[hlen];simpa using hi
   simp[axQ,this]
  .have:ms.length<=i:=by rw[hlen];simpa using hi
   simp[hi,ax0 this]
 refine any_ok hcf hct hed (mk:=fun i=>ms.getD i .none) 0 (fun i j _=>Za i j) hQ ops.size _ fr fr' H a _ (by simp) (fun i hi=>by omega) ?_ (by rw[hall];simp) (by rw[hall,map_range,hms];exact h) (fun _=>rfl) ?_
 .intro i hi hl;simp[ayp,hi]at hl
 .obtain ⟨μ,hI,hE0,hf,hn,hdf⟩:=hN;obtain⟨h1,h2⟩:=Inv.world (w':={ w with drawn:=w.drawn+1 }) hI (axO _) rfl rfl rfl (fun b _=>.inl rfl);exact⟨μ,h1,hE0.trans h2 hE0.len,rD.evo h2 (axO _) hf,hn,hdf⟩
def Yk(hcf:CX C cf)(hct:nU C cf)(uV:C.P.follows .mixedOrders=true)(hd:yK ops=true){fr fr':Frame}{H H':Heap}{ms:List Mark}{a:Act}{w:World}{id:Nat}{Q:Exit->Act->World->Prop}
 (h:jX C cf nt ops ops.toList fr H=some (fr',H',ms))(hok:yJ (Region.before ops) ms=true)(hN:Now C T m K0 nt fr H a w)(hQ:∀ a' w',Now C T m K0 nt fr' H' a' w'->Q .normal a' w'):(Code.region id ops true).wp C.P Q a w:=by
 unfold yK at hd;simp only[ax4,ax5,ayh,ayV]at hd;refine Oh hcf hct uV hd.1 (fun i j hij hj=>?_) h hN hQ;have hlen:=(pU h).1;have hjm:j<ms.length:=by rw[hlen];simpa using hj
 have him:i<ms.length:=by omega
 have h1:=hd.2 j hj i hij;rw[jf hj,jf (show i<ops.size by omega)]at h1;unfold yJ at hok;simp only[ax5,ayh,ayV]at hok;have h2:=hok j hjm i hij;rw[axI hjm,axI him]at h2;rcases h1 with h1|h1
 .exact .inl h1
 .rcases h2 with h2|h2
  .exact .inl h2
  .exact .inr ⟨h1,by simpa[axQ,hjm,him]using h2⟩
def aaV(hcf:CX C cf)(hct:nU C cf)(uV:C.P.follows .mixedOrders=true)(hd:Qs C ops=true){fr fr':Frame}{H H':Heap}{a:Act}{w:World}{id:Nat}{Q:Exit->Act->World->Prop}
 (h:mG C cf nt ops ops.toList fr H=some (fr',H'))(hN:Now C T m K0 nt fr H a w)(hQ:∀ a' w',Now C T m K0 nt fr' H' a' w'->Q .normal a' w'):(Code.region id ops true).wp C.P Q a w:=by
 obtain⟨ms,hms⟩:=TJ h;unfold Qs at hd;simp only[ax4,ax5,ayh,ayV]at hd;refine Oh hcf hct uV hd.1 (fun i j hij hj=>?_) hms hN hQ;obtain⟨hlen,hmk⟩:=pU hms;have hjm:j<ms.length:=by rw[hlen];simpa using hj
 have him:i<ms.length:=by omega
 have h1:=hd.2 j hj i hij;have ei:=jf (show i<ops.size by omega);have ej:=jf hj;rw[ei,ej]at h1;rcases h1 with h1|h1
 .exact .inl h1
 .obtain ⟨fi,Hi,Hi',e1⟩:=hmk i _ _ (by rw[ayr];exact ei) (axI him);obtain⟨fj,Hj,Hj',e2⟩:=hmk j _ _ (by rw[ayr];exact ej) (axI hjm);have:=Oe h1 fi fj Hi Hi' Hj Hj';rw[<- e1,<- e2]at this;exact .inr ⟨this.1,by simpa[axQ,hjm,him]using this.2⟩
end
section
variable {C:Ctx}{cf:Cf}{T:Nat->Nat->Prop}{m nt:Nat}{K0:Kx}{ops:Array Oper}
def twx(n j:Nat):Nat:=if j=n then n+1 else if j=n+1 then n else j
def Oi(n j:Nat):twx n (twx n j)=j:=by
 unfold twx;by_cases h1:j=n
 .simp [h1]
 .by_cases h2:j=n+1
  .simp [h2]
  .simp [h1,h2]
def QM{n j:Nat}(h:j<n):twx n j=j:=by
 unfold twx;rw[if_neg (by omega),if_neg (by omega)]
def QN(H:Heap)(x y:Option Obj)(j:Nat):(H++[x,y])[j]?=(H++[y,x])[twx H.length j]?:=by
 by_cases h1:j<H.length
 .rw [QM h1,axL h1,axL h1]
 .by_cases h2:j=H.length
  .subst h2;have:twx H.length H.length=H.length+1:=by unfold twx;rw[if_pos rfl]
   rw[this,axS (axO _),axS (by omega)];simp
  .by_cases h3:j=H.length+1
   .subst h3;have:twx H.length (H.length+1)=H.length:=by unfold twx;rw[if_neg (by omega),if_pos rfl]
    rw[this,axS (axO _),axS (by omega)];simp
   .have:twx H.length j=j:=by unfold twx;rw[if_neg h2,if_neg h3]
    rw[this,ax0 (by simp;omega),ax0 (by simp;omega)]
def Oj{K:Kx}{o:Nat}{ob:Obj}(h:ig ob.p=false):gB K T o ob ↔ vW (K.μ o) ob/\Bd K T (K.μ o) ob:=by
 unfold gB;split
 .rename_i heq;rw[heq]at h;simp[ig]at h
 .exact Iff.rfl
def Zb{H:Heap}{μ:Nat->Pl}{w:World}{x y:Obj}(hI0:Inv C K0 T)(hH:K0.H=H)(hI:Inv C ⟨μ,H++[some y,some x],w⟩ T)(hE:Evo T H.length K0 ⟨μ,H++[some y,some x],w⟩)
 (hold:∀ b,b<K0.w.heap.size->w.heap[b]?=K0.w.heap[b]?)(hx:x.ids=false)(hx2:ig x.p=false)(hy:y.ids=false)(hy2:ig y.p=false) :
 Inv C ⟨fun j=>μ (twx H.length j),H++[some x,some y],w⟩ T/\Evo T H.length K0 ⟨fun j=>μ (twx H.length j),H++[some x,some y],w⟩:=by
 have hA:=QN H (some x) (some y);have aen:∀ b,Own ⟨fun j=>μ (twx H.length j),H++[some x,some y],w⟩ b ↔ Own ⟨μ,H++[some y,some x],w⟩ b:=by
  intro b;constructor
  .rintro ⟨o,ob,h1,h2,h3⟩;exact⟨twx H.length o,ob,by rw[<- hA];exact h1,h2,h3⟩
  .rintro ⟨o,ob,h1,h2,h3⟩;refine⟨twx H.length o,ob,?_,?_,?_⟩
   .show (H++[some x,some y])[twx H.length o]?=_;rw[hA,Oi];exact h1
   .show Real ob (μ (twx H.length (twx H.length o)));rw[Oi];exact h2
   .show (μ (twx H.length (twx H.length o))).blk=b;rw[Oi];exact h3
 have hNT:NT ⟨fun j=>μ (twx H.length j),H++[some x,some y],w⟩ T=NT ⟨μ,H++[some y,some x],w⟩ T:=by funext t b;refine propext ?_;unfold NT;rw[aen]
 have hE1:Evo T H.length ⟨μ,H++[some y,some x],w⟩ ⟨fun j=>μ (twx H.length j),H++[some x,some y],w⟩:=by
  refine⟨by simp,by simp,axO _,rfl,rfl,rfl,fun o ho ob' h=>⟨ob',?_,axO _,fun _=>⟨?_,Same.refl _⟩⟩,fun b _ h=>(aen b).1 h,fun _ _ _ _=>rfl,fun _ _ _ _=>rfl⟩
  .have h':(H++[some x,some y])[o]?=_:=h;rw[hA,QM ho]at h';exact h'
  .show μ (twx H.length o)=μ o;rw[QM ho]
 have hE2:=hE.trans hE1 (axO _);have hcells:∀ (o o':Nat) (ob:Obj),ob.ids=false->ig ob.p=false->μ (twx H.length o)=μ o'->gB ⟨μ,H++[some y,some x],w⟩ T o' ob->gB ⟨fun j=>μ (twx H.length j),H++[some x,some y],w⟩ T o ob:=by intro o o' ob h1 h2 h3 h4;rw[Oj h2]at h4 ⊢;simp only at h4 ⊢;rw[h3];refine⟨h4.1,fun hc=>?_⟩;obtain⟨cur,E,g1,g2,g3,g4⟩:=h4.2 hc;refine⟨cur,E,g1,g2,g3,?_⟩;unfold fZ at g4 ⊢;rw[h1]at g4 ⊢;simp only[axZ,if_false]at g4 ⊢;rw[hNT];exact g4
 refine⟨⟨?_,?_,?_,?_,?_,?_⟩,hE2⟩
 .intro o ob h;by_cases h1:o<H.length
  .have h2:H[o]?=some (some ob):=by
    have h':(H++[some x,some y])[o]?=_:=h
    rwa [axL h1]at h'
   have h3:K0.H[o]?=some (some ob):=by rw[hH];exact h2
   obtain⟨ob0,q1,q2,q3⟩:=hE2.obj o h1 ob h;rw[h3]at q1;obtain rfl:=axN (axN q1);exact gB.evo hE2 (by rw[hH];exact axO _) (q3 rfl).1 (fun hr=>hold _ (hI0.own _ ⟨o,ob,h3,hr,rfl⟩).1) (hI0.obj o ob h3)
  .have h':(H++[some x,some y])[o]?=some (some ob):=h;rw[axS (by omega)]at h';have h2:o-H.length=0\/o-H.length=1:=by
    by_cases h4:o-H.length<2
    .omega
    .rw [ax0 (by simp;omega)]at h';cases h'
   rcases h2 with h2|h2
   .rw [h2]at h';obtain rfl:x=ob:=by simpa using h'
    have ho:o=H.length:=by omega
    subst ho;refine hcells _ (H.length+1) _ hx hx2 (by unfold twx;rw[if_pos rfl]) (hI.obj _ _ ?_);show(H++[some y,some x])[H.length+1]?=_;rw[axS (by omega)];simp
   .rw [h2]at h';obtain rfl:y=ob:=by simpa using h'
    have ho:o=H.length+1:=by omega
    subst ho;refine hcells _ H.length _ hy hy2 (by unfold twx;rw[if_neg (by omega),if_pos rfl]) (hI.obj _ _ ?_);show(H++[some y,some x])[H.length]?=_;simp
 .intro o o' ob ob' h h' r r' e;have h1:(H++[some x,some y])[o]?=_:=h;have h2:(H++[some x,some y])[o']?=_:=h';rw[hA]at h1 h2;have:=hI.inj (twx H.length o) (twx H.length o') ob ob' h1 h2 r r' e;have:=congrArg (twx H.length) this
  rwa [Oi,Oi]at this
 .intro b hb;exact hI.own b ((aen b).1 hb)
 .exact hI.new
 .exact hI.mono
 .intro g p hg;have:=hI.glob g p hg;rw[hNT];exact this
def QO{e:TypeId}{n:Nat}{p:AV}(h:kF C e n=some p):ig p=false:=by
 unfold kF at h;simp only at h;split at h
 .split at h
  all_goals first
   | (simp only[axH]at h;subst h;rfl)
   | (split at h<;>first|(simp only[axH]at h;subst h;rfl)|cases h)
   | cases h
 .cases h
def Zc{H H':Heap}{t:TypeId}{l c:Int}{r:AV}(h:fP C H t (.int .i64 l) (.int .i64 c)=some (r,H')):∃ n ob,r=.sl H.length 0 n 0/\H'=H++[some ob]/\ob.ids=false/\ig ob.p=false /\
 ∀ H2,fP C H2 t (.int .i64 l) (.int .i64 c)=some (.sl H2.length 0 n 0,H2++[some ob]):=by
 unfold fP at h ⊢;split at h
 .rename_i e l' c' hu e1 e2;simp only[AV.int.injEq,true_and]at e1 e2;subst e1 e2;split at h
  .rename_i hcd;cases hz:kF C e l.toNat with
   | none=>rw[hz]at h;cases h
   | some p=>
    rw[hz]at h;simp only[axM,axH,axJ]at h;obtain⟨rfl,rfl⟩:=h;refine⟨l.toNat,_,rfl,rfl,rfl,QO hz,fun H2=>?_⟩;simp only[hcd,hz];rfl
  .cases h
 .cases h
def G6{H:Heap}{a:Act}{w:World}{μ:Nat->Pl}{o:Oper}{t:TypeId}{l c:Int}{r:AV}{H':Heap}(ho:o.op=.makeSlice t (.const (.int .i64 l)) (.const (.int .i64 c)))(hI:Inv C ⟨μ,H,w⟩ T)
 (h:fP C H t (.int .i64 l) (.int .i64 c)=some (r,H')):∃ u w' μ',(execOp a.eval o).run C.P w=.ok (.value u) w'/\Inv C ⟨μ',H',w'⟩ T/\Evo T H.length ⟨μ,H,w⟩ ⟨μ',H',w'⟩/\aF ⟨μ',H',w'⟩ T r u/\∀ b,b<w.heap.size->w'.heap[b]?=w.heap[b]?:=by
 obtain⟨u,w',μ',h1,h2,h3,h4,h5⟩:=xU (K:=⟨μ,H,w⟩) hI (l:=.int .i64 l) (c:=.int .i64 c) (vl:=.int .i64 l) (vc:=.int .i64 c) (by simp[aF,aK,aU,RV]) (by simp[aF,aK,aU,RV]) h;refine⟨u,w',μ',?_,h2,h3,h4,h5⟩;unfold execOp;simp only[ho];have e:∀ v,a.eval (.const v)=v:=fun v=>rfl;simp only[e,Sem.run_bind,h1,Result.andThen_ok,Sem.run_pure]
def Eo{o:Oper}(h:KW o=true):∃ t l c d,o.op=.makeSlice t (.const (.int .i64 l)) (.const (.int .i64 c))/\o.guard=none/\o.dst=some d:=by
 unfold KW at h;split at h
 .rename_i t l c h1 h2;obtain⟨d,hd⟩:=ayn.1 h;exact⟨t,l,c,d,h1,h2,hd⟩
 .cases h
def Ol{o:Oper}{t:TypeId}{l c:Int}{d:Nat}{fr:Frame}{H H':Heap}{v:AV}(h1:o.op=.makeSlice t (.const (.int .i64 l)) (.const (.int .i64 c)))(h2:o.guard=none)(h3:o.dst=some d)
 (h:out1 C cf nt ops o fr H=some (v,H')):d<nt/\fP C H t (.int .i64 l) (.int .i64 c)=some (v,H'):=by
 unfold out1 at h;split at h
 .rename_i hd;have hw:lq ops fr o=some true:=by unfold lq;rw[h2]
  rw[hw]at h;simp only at h;refine⟨by simpa[AQ,h3]using hd,?_⟩;unfold step at h;simp only[h1]at h;exact h
 .cases h
end
section
variable {C:Ctx}{cf:Cf}{T:Nat->Nat->Prop}{m nt:Nat}{K0:Kx}{ops:Array Oper}
def vG{listed:Array Bool}(hed:lV 0 ops.toList=true)(hcl:Closed ops listed){i:Nat}(hi:i∈Region.ready .any ops listed):∀ j,((Region.before ops).getD i 0).testBit j=true->listed.getD j false=true:=by
 obtain⟨hir,G5⟩:=mem_ready.1 hi;obtain⟨hlt,hnl⟩:=lW.1 hir;rw[jf hlt]at G5;simp only[axM,ayv,azJ,ayV,azW]at G5;have hok:=qy hed i (opAt ops i) (by rw[ayr];exact jf hlt);rw[ayg]at hok;intro j hj;obtain⟨e,h1,h2,h3⟩:=GZ (jf hlt) hok hj;have he1:listed.getD e.on false=true:=by
  rcases G5 e (ay7.1 h1)with h4|h4
  .rw [h2]at h4;cases h4
  .exact h4
 rcases h3 with rfl|h3
 .exact he1
 .have hlt2:e.on<i:=by have:=ax5.1 hok e h1;simpa[h2]using this
  exact hcl e.on (by omega) he1 j h3
def zW{listed:Array Bool}{i:Nat}(hs:listed.size=ops.size)(hi:i<ops.size)(hcl:Closed ops listed)(hbef:∀ j,((Region.before ops).getD i 0).testBit j=true->listed.getD j false=true):Closed ops (listed.setIfInBounds i true):=by
 intro k hk hkl j hj;rw[sV (by omega)]at hkl ⊢;split
 .rfl
 .split at hkl
  .rename_i hki;subst hki;exact hbef j hj
  .exact hcl k hk hkl j hj
def xW{s j:Nat}{d:Bool}(h:j<s):(Array.replicate s false).getD j d=false:=by
 simp[ayp,h]
def G7{Q:Exit->Act->World->Prop}{i:Nat}{o:Oper}{next:Act->World->Prop}{a:Act}{w w':World}{u:Value}(hi:ops[i]?=some o)(hg:o.guard=none)(h:(execOp a.eval o).run C.P w=.ok (.value u) w')(hnext:next (a.put o.dst u) w'):wpOp C.P ops Q i next a w:=by
 unfold wpOp;rw[hi];simp only;have hw:Region.wanted o (yielded ops a.tmps)=true:=by unfold Region.wanted;rw[hg]
 rw[hw];simp only[if_true]
 left
 unfold Oper.wp;rw[h,Oper.upon_value];exact hnext
def UJ(hcf:CX C cf)(hct:nU C cf)(uV:C.P.follows .mixedOrders=true)(hd:yK ops=true)(ht:Qv ops=true){fr fr':Frame}{H H':Heap}{ms:List Mark}{a:Act}{w:World}{id:Nat}{Q:Exit->Act->World->Prop}(hok:Gt (Region.before ops) ms=true)
 (h:jX C cf nt ops ops.toList fr H=some (fr',H',ms))(hN:Now C T m K0 nt fr H a w)(hQ:∀ a' w',Now C T m K0 nt fr' H' a' w'->Q .normal a' w'):(Code.region id ops true).wp C.P Q a w:=by
 have hp:∀ i j,1<=i->i<j->j<ops.size->((Region.before ops).getD j 0).testBit i=true\/(oh ops (opAt ops i) (opAt ops j)=true/\bear (ms.getD i .none) (ms.getD j .none)=true):=by
  unfold yK at hd;simp only[ax4,ax5,ayh,ayV]at hd;intro i j hi1 hij hj;have hlen:=(pU h).1;have hjm:j<ms.length:=by rw[hlen];simpa using hj
  have him:i<ms.length:=by omega
  have h1:=hd.2 j hj i hij;rw[jf hj,jf (show i<ops.size by omega)]at h1;unfold Gt at hok;simp only[ax5,ayh,ayV,decide_eq_true_eq]at hok;have h2:=(hok j hjm i hij).resolve_left (by omega);rw[axI hjm,axI him]at h2;rcases h1 with h1|h1
  .exact .inl h1
  .rcases h2 with h2|h2
   .exact .inl h2
   .exact .inr ⟨h1,by simpa[axQ,hjm,him]using h2⟩
 have hed:lV 0 ops.toList=true:=by unfold yK at hd;simp only[ax4]at hd;exact hd.1
 unfold Qv at ht;simp only[ax4,ax5,ayh,ayV,decide_eq_true_eq]at ht;obtain⟨ht1,ht2⟩:=ht;split at ht1
 .rename_i x y hx hy;simp only[ax4,decide_eq_true_eq]at ht1;obtain⟨hx1,hy1,hne⟩:=ht1;have hsz:2<=ops.size:=by have:=(ay8.1 hy).1;omega
  have ex:opAt ops 0=x:=by have:=jf (ops:=ops) (i:=0) (by omega);rw[hx]at this;exact(axN this).symm
  have ey:opAt ops 1=y:=by have:=jf (ops:=ops) (i:=1) (by omega);rw[hy]at this;exact(axN this).symm
  obtain⟨t0,l0,c0,d0,a1,a2,a3⟩:=Eo hx1;obtain⟨t1,l1,c1,d1,b1,b2,b3⟩:=Eo hy1;rw[a3,b3]at hne;have hr:List.range ops.size=0::1::List.range' 2 (ops.size-2):=by obtain⟨k,hk⟩:∃ k,ops.size=k+2:=⟨ops.size-2,by omega⟩;rw[hk,List.range_eq_range'];simp[azZ]
  have hml:=(pU h).1;have hms:ms=(List.range ops.size).map (fun i=>ms.getD i .none):=by
   apply ayL;intro i;rw[axP];by_cases hi:i<ops.size
   .rw [ayJ hi];have:i<ms.length:=by rw[hml];simpa using hi
    simp[axQ,this]
   .have:ms.length<=i:=by rw[hml];simpa using hi
    simp[hi,ax0 this]
  rw[<- map_range,hr]at h;simp only[ax9,ex,ey,jX]at h;split at h
  .rename_i v0 H1 ho0;split at h
   .rename_i frz Hz msz hrz;split at hrz
    .rename_i v1 H2 ho1;split at hrz
     .rename_i fry Hy msy hry;simp only[axH,axJ]at h hrz;obtain⟨rfl,rfl,rfl⟩:=hrz;obtain⟨rfl,rfl,hmm⟩:=h;obtain⟨hd0,m0⟩:=Ol a1 a2 a3 ho0;obtain⟨hd1,m1⟩:=Ol b1 b2 b3 ho1;obtain⟨n0,X,rfl,rfl,x1,x2,x3⟩:=Zc m0;obtain⟨n1,Y,rfl,rfl,y1,y2,y3⟩:=Zc m1;obtain⟨mk,hmk⟩:∃ mk:Nat->Mark,mk=fun i=>ms.getD i .none:=⟨_,rfl⟩;rw[<- hmk,hr]at hms;have hm1:dw C ops (jU fr x.dst (.sl H.length 0 n0 0)) (H++[some X]) (H++[some X]++[some Y]) y=mk 1/\msy=(List.range' 2 (ops.size-2)).map mk:=by rw[<- hmm]at hms;simp only[ax9,ay3]at hms;exact⟨hms.2.1,hms.2.2⟩
      rw[a3,b3]at hry;rw[a3]at ho1 hm1;refine wp_region_any uV ?_;have hsR:(Array.replicate ops.size false).size=ops.size:=by simp
      have Zd:Closed ops (Array.replicate ops.size false):=fun i hi hl=>by rw[xW hi]at hl;cases hl
      have hN':Now C T m K0 nt fr H a { w with drawn:=w.drawn+1 }:=by obtain⟨μ,hI,hE0,hf,hn,hdf⟩:=hN;obtain⟨h1,h2⟩:=Inv.world (w':={ w with drawn:=w.drawn+1 }) hI (axO _) rfl rfl rfl (fun b _=>.inl rfl);exact⟨μ,h1,hE0.trans h2 hE0.len,rD.evo h2 (axO _) hf,hn,hdf⟩
      clear hN;generalize ({ w with drawn:=w.drawn+1 }:World)=w at hN';obtain⟨fu,hfu⟩:∃ fu,ops.size=fu+2:=⟨ops.size-2,by omega⟩;have hfu2:∀ L a w,wpAny C.P .any ops Q (fu+2) L a w->wpAny C.P .any ops Q ops.size L a w:=fun L a w h=>by rw[hfu];exact h
      refine hfu2 _ _ _ ?_;have hfirst:∀ i,i∈Region.ready .any ops (Array.replicate ops.size false)->i=0\/i=1:=by
       intro i hi;have hb:=vG hed Zd hi;by_cases h2:i<2
       .omega
       .have hlt:=(lW.1 (mem_ready.1 hi).1).1;have:=hb 0 ((ht2 i hlt).resolve_left h2);rw[xW (by omega)]at this;cases this
      have aeo:rest ops (Array.replicate ops.size false)=List.range ops.size:=by unfold rest;exact aze.2 fun i hi=>by rw[xW (ayh.1 hi)];rfl
      unfold wpAny;refine⟨fun hrd=>?_,fun i hi=>?_⟩
      .have:=xR hsR hed (i:=0) (r:=1::List.range' 2 (ops.size-2)) (by rw[aeo,hr]);rw[hrd]at this;simp at this
      rcases hfirst i hi with rfl|rfl
      .obtain ⟨μ,hI,hE0,hf,hn,hdf⟩:=_root_.id hN';obtain⟨u,w1,μ1,q1,q2,q3,q4,_⟩:=G6 (a:=a) a1 hI (x3 H);refine G7 hx a2 q1 ?_;have hN1:=Now.put (nt:=nt) (d:=some d0) hE0 hf hn hdf q2 q3 q4 (by simpa[AQ]using hd0);rw[a3];have hL0:∀ j,j<ops.size->∀ d,((Array.replicate ops.size false).setIfInBounds 0 true).getD j d=decide (j=0):=fun j hj d=>by
        rw[sV (by simp;omega)];by_cases hj0:j=0
        .simp [hj0]
        .rw [if_neg hj0,xW hj];simp[hj0]
       have hr1:rest ops ((Array.replicate ops.size false).setIfInBounds 0 true)=1::List.range' 2 (ops.size-2):=by unfold rest;rw[hr,azo,hL0 0 (by omega),azo,hL0 1 (by omega)];simp only[decide_true,az3,axZ,if_false,Nat.one_ne_zero,decide_false,Bool.not_false,if_true];congr 1;refine aze.2 fun j hj=>?_;have:=List.mem_range'_1.1 hj;rw[hL0 j (by omega)];simp;omega
       refine any_ok hcf hct hed (mk:=mk) 1 (fun i j hi hij hj=>by rw[hmk];exact hp i j (by omega) hij hj) hQ (fu+1) _ (jU fr (some d0) (.sl H.length 0 n0 0)) _ (H++[some X]) _ _ (by simp) (fun i hi=>by rw[hL0 i (by omega)];simp;omega) (zW hsR (by omega) Zd (vG hed Zd hi)) (by rw[hr1];simp;omega) ?_ (fun _=>rfl) hN1;rw[hr1,ax9,ax9,ey,jX,ho1];simp only[b3];rw[hry];simp only[hm1.1,hm1.2]
      .obtain ⟨μ,hI,hE0,hf,hn,hdf⟩:=_root_.id hN';obtain⟨u1,w1,μ1,q1,q2,q3,q4,q5⟩:=G6 (a:=a) b1 hI (y3 H);refine G7 hy b2 q1 ?_;rw[b3];have hL1:∀ j,j<ops.size->∀ d,((Array.replicate ops.size false).setIfInBounds 1 true).getD j d=decide (j=1):=fun j hj d=>by
        rw[sV (by simp;omega)];by_cases hj0:j=1
        .simp [hj0]
        .rw [if_neg hj0,xW hj];simp[hj0]
       have aep:=zW hsR (by omega) Zd (vG hed Zd hi);have hs1:((Array.replicate ops.size false).setIfInBounds 1 true).size=ops.size:=by simp
       have abx:∀ i,i∈Region.ready .any ops ((Array.replicate ops.size false).setIfInBounds 1 true)->i=0:=by
        intro i hi;have hb:=vG hed aep hi;have hm:=lW.1 (mem_ready.1 hi).1;rw[hL1 i hm.1]at hm;have hi1:¬ i=1:=by simpa using hm.2
        by_cases h2:i<2
        .omega
        .have:=hb 0 ((ht2 i hm.1).resolve_left h2);rw[hL1 0 (by omega)]at this;simp at this
       have hr1:rest ops ((Array.replicate ops.size false).setIfInBounds 1 true)=0::List.range' 2 (ops.size-2):=by unfold rest;rw[hr,azo,hL1 0 (by omega),azo,hL1 1 (by omega)];simp only[decide_true,az3,axZ,if_false,show(0:Nat)=1 ↔ False by simp,decide_false,Bool.not_false,if_true];congr 1;refine aze.2 fun j hj=>?_;have:=List.mem_range'_1.1 hj;rw[hL1 j (by omega)];simp;omega
       unfold wpAny;refine⟨fun hrd=>?_,fun i hi2=>?_⟩
       .have:=xR hs1 hed hr1;rw[hrd]at this;simp at this
       obtain rfl:=abx i hi2;obtain⟨u0,w2,μ2,p1,p2,p3,p4,p5⟩:=G6 (a:=a.put (some d1) u1) a1 q2 (x3 (H++[some Y]));refine G7 hx a2 p1 ?_;rw[a3];have eA:H++[some Y]++[some X]=H++[some Y,some X]:=by simp
       have eB:H++[some X]++[some Y]=H++[some X,some Y]:=by simp
       have eL:(H++[some Y]).length=H.length+1:=by simp
       have eM:(H++[some X]).length=H.length+1:=by simp
       rw[eA]at p2 p3 p4;rw[eL]at p3 p4;have hE2:=q3.trans p3 (Nat.le_succ _);obtain⟨z1,z2⟩:=Zb hI rfl p2 hE2 (fun b hb=>by rw[p5 b (ayw hb q3.size)];exact q5 b hb) x1 x2 y1 y2;have q4':=aF.evo p3 (by simp) q4;have v1:aF ⟨fun j=>μ2 (twx H.length j),H++[some X,some Y],w2⟩ T (.sl (H.length+1) 0 n1 0) u1:=by
        simp only[aF,aK,aU]at q4' ⊢;refine⟨by simp,q4'.2.1,fun ob hob=>?_⟩;rw[QN]at hob;have es:twx H.length (H.length+1)=H.length:=by unfold twx;rw[if_neg (by omega),if_pos rfl]
        rw[es]at hob ⊢;exact q4'.2.2 ob hob
       have v0:aF ⟨fun j=>μ2 (twx H.length j),H++[some X,some Y],w2⟩ T (.sl H.length 0 n0 0) u0:=by
        simp only[aF,aK,aU]at p4 ⊢;refine⟨by simp,p4.2.1,fun ob hob=>?_⟩;rw[QN]at hob;have es:twx H.length H.length=H.length+1:=by unfold twx;rw[if_pos rfl]
        rw[es]at hob ⊢;exact p4.2.2 ob hob
       have f1:=rD.put (d:=some d1) (rD.evo z2 (axO _) hf) v1 (fun i hi=>by cases hi;omega);have f0:=rD.put (a:=a.put (some d1) u1) (d:=some d0) f1 v0 (fun i hi=>by cases hi;rw[BH];omega);have hN2:Now C T m K0 nt (jU (jU fr (some d1) (.sl (H.length+1) 0 n1 0)) (some d0) (.sl H.length 0 n0 0)) (H++[some X,some Y]) ((a.put (some d1) u1).put (some d0) u0) w2 :=
        ⟨_,z1,hE0.trans z2 hE0.len,f0,by rw[BH,BH];exact hn,by rw[put_defers,put_defers];exact hdf⟩
       have hN3:=hN2.feq (Jy fr (.sl (H.length+1) 0 n1 0) (.sl H.length 0 n0 0) (d:=some d1) (e:=some d0) (fun k hk hk2=>hne (hk2.trans hk.symm)));rw[eB,eM]at hry;have hL2:∀ j,j<ops.size->∀ d,(((Array.replicate ops.size false).setIfInBounds 1 true).setIfInBounds 0 true).getD j d=decide (j<2):=fun j hj d=>by
        rw[sV (by simp;omega)];by_cases hj0:j=0
        .simp [hj0]
        .rw [if_neg hj0,hL1 j hj];by_cases hj1:j=1
         .simp [hj1]
         .simp [hj1];omega
       have hr2:rest ops (((Array.replicate ops.size false).setIfInBounds 1 true).setIfInBounds 0 true)=List.range' 2 (ops.size-2):=by unfold rest;rw[hr,azo,hL2 0 (by omega),azo,hL2 1 (by omega)];simp only[show(0:Nat)<2 by omega,show(1:Nat)<2 by omega,decide_true,az3,axZ,if_false];refine aze.2 fun j hj=>?_;have:=List.mem_range'_1.1 hj;rw[hL2 j (by omega)];simp;omega
       refine any_ok hcf hct hed (mk:=mk) 2 (fun i j hi hij hj=>by rw[hmk];exact hp i j (by omega) hij hj) hQ fu _ (jU (jU fr (some d0) (.sl H.length 0 n0 0)) (some d1) (.sl (H.length+1) 0 n1 0)) _ (H++[some X,some Y]) _ _ (by simp) (fun i hi=>by rw[hL2 i (by omega)];simp;omega) (zW hs1 (by omega) aep (vG hed aep hi2)) (by rw[hr2];simp;omega) ?_ (fun _=>rfl) hN3;rw[hr2,hry,hm1.2]
     .cases hrz
    .cases hrz
   .cases h
  .cases h
 .cases ht1
end
end Go.AM
