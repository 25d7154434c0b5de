/- The abstract machine, part 4: a deterministic evaluator for the program's code and the proof that what it tells is so. Conditions: none beyond the theorems' own. -/
import Derived.Test.YtbodincpjijdiaaAm3
set_option linter.defProp false
set_option linter.unusedSimpArgs false
set_option linter.unusedVariables false
set_option maxRecDepth 100000
set_option maxHeartbeats 8000000
namespace Go.AM
def gQ(π:List (Nat×Nat))(k _:Nat):Option (Nat×Nat):=π[k]?
def idN(o g:Nat):Option (Nat×Nat):=some (o,g)
def tz(_:Nat):Nat:=0
section
variable {ρ ρ2 ρ3:Nat->Nat->Option (Nat×Nat)}{τ τ2 τ3:Nat->Nat}
mutual
def oI(h:∀ o g,(ρ o g).bind (fun x=>ρ2 x.1 x.2)=ρ3 o g)(ht:∀ t,τ2 (τ t)=τ3 t):(v:AV)->ren ρ2 τ2 (ren ρ τ v)=ren ρ3 τ3 v
 | .ptr o i f g=>by
  have h1:=h o g;simp only[ren];rcases e:ρ o g with _|⟨a,b⟩
  .rw [e]at h1;simp only[Option.bind_none]at h1;simp[ren,<- h1]
  .rw [e]at h1;simp only[ayY]at h1;simp[ren,<- h1]
 | .sl o i f g=>by
  have h1:=h o g;simp only[ren];rcases e:ρ o g with _|⟨a,b⟩
  .rw [e]at h1;simp only[Option.bind_none]at h1;simp[ren,<- h1]
  .rw [e]at h1;simp only[ayY]at h1;simp[ren,<- h1]
 | .map o g=>by
  have h1:=h o g;simp only[ren];rcases e:ρ o g with _|⟨a,b⟩
  .rw [e]at h1;simp only[Option.bind_none]at h1;simp[ren,<- h1]
  .rw [e]at h1;simp only[ayY]at h1;simp[ren,<- h1]
 | .ro c p t=>by simp only[ren,ht]
 | .jl p i f t=>by simp only[ren,ht]
 | .agg p=>by simp only[ren,oI h ht p]
 | .tup l=>by simp only[ren,vH h ht l]
 | .fn f l=>by simp only[ren,vH h ht l]
 | .pc l=>by simp only[ren,vH h ht l]
 | .pr e l=>by simp only[ren,vH h ht l]
 | .pm l=>by simp only[ren,vH h ht l]
 | .top=>rfl
 | .bool _=>rfl
 | .int _ _=>rfl
 | .str _=>rfl
 | .gZ=>rfl
 | .jS=>rfl
 | .iL=>rfl
 | .pn=>rfl
 | .pb _=>rfl
 | .pi _ _=>rfl
def vH(h:∀ o g,(ρ o g).bind (fun x=>ρ2 x.1 x.2)=ρ3 o g)(ht:∀ t,τ2 (τ t)=τ3 t):(l:List AV)->bU ρ2 τ2 (bU ρ τ l)=bU ρ3 τ3 l
 | []=>rfl
 | a::r=>by simp only[bU,oI h ht a,vH h ht r]
end
end
section
variable {π:List (Nat×Nat)}{τ:Nat->Nat}
def sg(π:List (Nat×Nat))(k:Nat):Nat:=(π.getD k (0,0)).1
mutual
def Fq:(v:AV)->(∀ o∈ids v,o<π.length)->ids (ren (gQ π) τ v)=(ids v).map (sg π)
 | .ptr o i f g,h=>by
  have hl:o<π.length:=h o (by simp[ids]);simp only[ren,gQ,axI hl];simp[ids,sg,List.getD,axI hl]
 | .sl o i f g,h=>by
  have hl:o<π.length:=h o (by simp[ids]);simp only[ren,gQ,axI hl];simp[ids,sg,List.getD,axI hl]
 | .map o g,h=>by
  have hl:o<π.length:=h o (by simp[ids]);simp only[ren,gQ,axI hl];simp[ids,sg,List.getD,axI hl]
 | .ro c p t,_=>rfl
 | .jl p i f t,_=>rfl
 | .agg p,h=>by simp only[ids]at h;simp only[ren,ids,Fq p h]
 | .tup l,h=>by simp only[ids]at h;simp only[ren,ids,vI l h]
 | .fn f l,h=>by simp only[ids]at h;simp only[ren,ids,vI l h]
 | .pc l,h=>by simp only[ids]at h;simp only[ren,ids,vI l h]
 | .pr e l,h=>by simp only[ids]at h;simp only[ren,ids,vI l h]
 | .pm l,h=>by simp only[ids]at h;simp only[ren,ids,vI l h]
 | .top,_=>rfl
 | .bool _,_=>rfl
 | .int _ _,_=>rfl
 | .str _,_=>rfl
 | .gZ,_=>rfl
 | .jS,_=>rfl
 | .iL,_=>rfl
 | .pn,_=>rfl
 | .pb _,_=>rfl
 | .pi _ _,_=>rfl
def vI:(l:List AV)->(∀ o∈aC l,o<π.length)->aC (bU (gQ π) τ l)=(aC l).map (sg π)
 | [],_=>rfl
 | a::r,h=>by
  simp only[aC,axV]at h;simp only[bU,aC,Fq a (fun o ho=>h o (.inl ho)),vI r (fun o ho=>h o (.inr ho)),ayy]
end
end
structure Like (t:Nat) (π:List (Nat×Nat)) (g:Nat) (ob0 ob:Obj):Prop where
 p:ren idN tz ob.p=ren (gQ π) tz ob0.p
 gen:ob.g=g
 row:ob.row=ob0.row
 ids:ob.ids=ob0.ids
 bx:ob0.row=false->ob.cap=ob0.cap/\ob.z=ob0.z/\g=0
 tg:ob.tg=0\/ob.tg=t
 tp:∀ k∈tags ob.p,k=0\/k=t
structure Img (t:Nat) (H:Heap) (π:List (Nat×Nat)) (S:List Obj):Prop where
 len:π.length=S.length
 nd:∀ (j k oj gj ok gk:Nat),π[j]?=some (oj,gj)->π[k]?=some (ok,gk)->oj=ok->j=k
 ob:∀ (k:Nat) (ob0:Obj),S[k]?=some ob0->∃ o g ob,π[k]?=some (o,g)/\H[o]?=some (some ob)/\Like t π g ob0 ob
def OkS(S:List Obj):Prop:=∀ (k:Nat) (ob0:Obj),S[k]?=some ob0->∀ o∈ids ob0.p,o<S.length
def pi0(K:Nat):List (Nat×Nat):=(List.range K).map fun k=>(k,0)
def qL{K k:Nat}:(pi0 K)[k]?=if k<K then some (k,0)else none:=by
 unfold pi0;rw[axP];by_cases h:k<K
 .rw [ayJ h,if_pos h];rfl
 .rw [ax0 (by simpa using h),if_neg h];rfl
def lF{π:List (Nat×Nat)}{k o g:Nat}(h:π[k]?=some (o,g)):sg π k=o:=by simp[sg,List.getD,h]
section
variable {t:Nat}{H:Heap}{π:List (Nat×Nat)}{S:List Obj}
def Img.at'(h:Img t H π S){k:Nat}(hk:k<S.length):∃ o g ob,π[k]?=some (o,g)/\H[o]?=some (some ob)/\Like t π g S[k] ob:=h.ob k S[k] (axI hk)
def Img.ids(h:Img t H π S)(hok:OkS S){k:Nat}{ob0 ob:Obj}{g:Nat}(hk:S[k]?=some ob0)(hl:Like t π g ob0 ob):AM.ids ob.p=(AM.ids ob0.p).map (sg π):=by
 have h1:AM.ids (ren idN tz ob.p)=AM.ids ob.p:=SQ.su ob.p;rw[<- h1,hl.p];exact Fq _ fun o ho=>by rw[h.len];exact hok k ob0 hk o ho
def Img.KE(h:Img t H π S){j k:Nat}(hj:j<S.length)(hk:k<S.length)(e:sg π j=sg π k):j=k:=by
 obtain⟨o,g,_,h1,_⟩:=h.at' hj;obtain⟨o2,g2,_,h2,_⟩:=h.at' hk;rw[lF h1,lF h2]at e;exact h.nd j k _ _ _ _ h1 h2 e
def Img.fst(h:Img t H π S):π.map Prod.fst=(List.range S.length).map (sg π):=by
 refine ayL fun k=>?_;rw[axP,axP];by_cases hk:k<S.length
 .obtain ⟨o,g,_,h1,_⟩:=h.at' hk;rw[h1,ayJ hk];simp[lF h1]
 .rw [ax0 (by rw[h.len];omega),ax0 (by simpa using hk)];rfl
def Img.nodup(h:Img t H π S):(π.map Prod.fst).Nodup:=by
 rw[h.fst,ayu,azD];have:=(ayu.1 (az0 (n:=S.length)));refine List.Pairwise.imp_of_mem ?_ this;intro a b ha hb hne e;exact hne (h.KE (ayh.1 ha) (ayh.1 hb) e)
def Img.lt(h:Img t H π S):∀ x∈π.map Prod.fst,x<H.length:=by
 intro x hx;rw[h.fst]at hx;obtain⟨k,hk,rfl⟩:=ayd.1 hx;obtain⟨o,g,ob,h1,h2,_⟩:=h.at' (ayh.1 hk);rw[lF h1];exact(axK.1 h2).1
def Img.uQ{k o g:Nat}(h:π[k]?=some (o,g)):(π.map Prod.fst)[k]?=some o:=by rw[axP,h];rfl
def yV(h:Img t H π S)(hok:OkS S):∀ (n:Nat) (l acc:List Nat),(∀ o∈l,o<S.length)->(∀ o∈acc,o<S.length) ->
 reach H n (l.map (sg π)) (acc.map (sg π))=(reach (S.map some) n l acc).map (sg π)/\∀ o∈reach (S.map some) n l acc,o<S.length
 | 0,l,acc,_,ha=>⟨rfl,ha⟩
 | n+1,[],acc,_,ha=>⟨rfl,ha⟩
 | n+1,o::r,acc,hl,ha=>by
  have ho:=hl o (ays ..);obtain⟨o',g,ob,h1,h2,h3⟩:=h.at' ho;have hc:(acc.map (sg π)).contains (sg π o)=acc.contains o:=by
   rw[Bool.eq_iff_iff];simp only[azB,ayd];constructor
   .rintro ⟨a,h4,h5⟩;rw[<- h.KE (ha a h4) ho h5];exact h4
   .intro h4;exact⟨o,h4,rfl⟩
  have hS:(S.map some)[o]?=some (some S[o]):=by rw[axP,axI ho];rfl
  simp only[ax9,reach];rw[hc];by_cases hm:acc.contains o=true
  .rw [if_pos hm,if_pos hm];exact yV h hok n r acc (fun x hx=>hl x (aya _ hx)) ha
  .rw [if_neg hm,if_neg hm,hS,lF h1,h2];simp only;have hi:=h.ids hok (axI ho) h3;have e:(if ob.ids=true then AM.ids ob.p else[])++r.map (sg π)=((if S[o].ids=true then AM.ids S[o].p else[])++r).map (sg π):=by rw[h3.ids,hi,ayy];split<;>rfl
   have e2:acc.map (sg π)++[o']=(acc++[o]).map (sg π):=by rw[ayy,ax9,aye,lF h1]
   rw[e,e2];refine yV h hok n _ _ ?_ ?_
   .intro x hx;rcases axV.1 hx with hx|hx
    .split at hx
     .exact hok o _ (axI ho) x hx
     .cases hx
    .exact hl x (aya _ hx)
   .intro x hx;rcases axV.1 hx with hx|hx
    .exact ha x hx
    .rw [ayb.1 hx];exact ho
def OT{l:List Nat}(hn:l.Nodup):∀ {k o i:Nat},l[k]?=some o->idxOf l o i=some (i+k):=by
 induction l with
 | nil=>intro k o i h;simp at h
 | cons a r ih=>
  intro k o i h;rw[azl]at hn;unfold idxOf;cases k with
  | zero=>
   simp at h;rw[if_pos h];rfl
  | succ k=>
   simp at h;have:a≠o:=fun e=>hn.1 (e ▸ axT h);rw[if_neg this,ih hn.2 h];congr 1;omega
def Img.bV(h:Img t H π S)(k g0:Nat):(gQ π k g0).bind (fun x=>AM.bV H (π.map Prod.fst) x.1 x.2)=gQ (pi0 S.length) k g0:=by
 unfold gQ;rw[qL];by_cases hk:k<S.length
 .obtain ⟨o,g,ob,h1,h2,h3⟩:=h.at' hk;rw[h1,if_pos hk];simp only[ayY];have hl:live H o g=some ob:=cZ.2 ⟨h2,h3.gen⟩;unfold AM.bV;rw[hl];simp only;rw[OT h.nodup (Img.uQ h1)];simp
 .rw [ax0 (by rw[h.len];omega),if_neg hk];rfl
def Img.into(h:Img t H π S)(n:Nat):Img n ((π.map Prod.fst).map fun o=>(aP H o).map (aQ (AM.bV H (π.map Prod.fst)) (fun _=>n) 0)) (pi0 S.length) S where
 len:=by simp[pi0]
 nd:=by
  intro j k oj gj ok gk h1 h2 e;rw[qL]at h1 h2;split at h1
  .split at h2
   .simp only[axH,axJ]at h1 h2;omega
   .cases h2
  .cases h1
 ob:=by
  intro k ob0 hk;obtain⟨o,g,ob,h1,h2,h3⟩:=h.ob k ob0 hk;have hlt:=(axK.1 hk).1;have ht:∀ v:AV,∀ x∈tags (ren (AM.bV H (π.map Prod.fst)) (fun _=>n) v),x=n:=by intro v x hx;rw[jV]at hx;obtain⟨_,_,rfl⟩:=ayd.1 hx;rfl
  refine⟨k,0,aQ (AM.bV H (π.map Prod.fst)) (fun _=>n) 0 ob,by rw[qL,if_pos hlt],?_,⟨?_,rfl,h3.row,h3.ids,fun hr=>⟨(h3.bx hr).1,(h3.bx hr).2.1,rfl⟩,.inr rfl,fun x hx=>.inr (ht ob.p x hx)⟩⟩
  .rw [axP,Img.uQ h1];simp[aP,h2]
  .simp only[aQ];rw[oI (ρ:=AM.bV H (π.map Prod.fst)) (ρ2:=idN) (τ:=fun _=>n) (τ2:=tz) (ρ3:=AM.bV H (π.map Prod.fst)) (τ3:=tz) (fun o g=>by cases AM.bV H (π.map Prod.fst) o g<;>rfl) (fun _=>rfl)];rw[<- oI (ρ:=idN) (τ:=tz) (ρ2:=AM.bV H (π.map Prod.fst)) (τ2:=tz) (ρ3:=AM.bV H (π.map Prod.fst)) (τ3:=tz) (fun o g=>rfl) (fun _=>rfl) ob.p];rw[h3.p];exact oI (fun o g=>h.bV o g) (fun _=>rfl) ob0.p
def OU{a b t:Nat}(ha:a=0\/a=t)(hb:b=0\/b=t):∃ t',(t'=0\/t'=t)/\dJ a b=some t':=by
 unfold dJ;rcases ha with rfl|rfl
 .exact ⟨b,hb,by simp⟩
 .by_cases h0:a=0
  .exact ⟨b,hb,by simp[h0]⟩
  .refine ⟨a,.inr rfl,?_⟩;rw[if_neg h0,if_pos];rcases hb with rfl|rfl
   .exact .inl rfl
   .exact .inr rfl
def BX{t:Nat}:∀ l:List Nat,(∀ k∈l,k=0\/k=t)->∃ t',bY l=some t'/\(t'=0\/t'=t)
 | [],_=>⟨0,rfl,.inl rfl⟩
 | k::r,hl=>by
  obtain⟨t',h1,h2⟩:=BX r fun x hx=>hl x (aya _ hx);obtain⟨t3,h3,h4⟩:=OU (hl k (ays ..)) h2;exact⟨t3,by simp[bY,h1,h4],h3⟩
def Like.dn{g:Nat}{ob0 ob:Obj}(h:Like t π g ob0 ob):∀ k∈AM.dn ob,k=0\/k=t:=by
 intro k hk;unfold AM.dn at hk;split at hk
 .exact h.tp k hk
 .rcases ax2.1 hk with rfl|hk
  .exact h.tg
  .split at hk
   .rename_i l hl;refine h.tp k ?_;rw[hl];exact hk
   .cases hk
def oJ{t:Nat}{H:Heap}:∀ l:List Nat,(∀ o∈l,∀ ob,aP H o=some ob->∀ k∈AM.dn ob,k=0\/k=t)->∀ k∈au (l.map (aP H)),k=0\/k=t
 | [],_,k,hk=>by simp[au]at hk
 | o::r,h,k,hk=>by
  rw[ax9]at hk;cases ho:aP H o with
  | none=>
   rw[ho,au]at hk;exact oJ r (fun x hx=>h x (aya _ hx)) k hk
  | some ob=>
   rw[ho,au]at hk;rcases axV.1 hk with hk|hk
   .exact h o (ays ..) ob ho k hk
   .exact oJ r (fun x hx=>h x (aya _ hx)) k hk
def Img.Rl(h:Img t H π S){k:Nat}(hk:k<S.length):∀ ob,aP H (sg π k)=some ob->∀ x∈AM.dn ob,x=0\/x=t:=by
 intro ob hob;obtain⟨o,g,ob',h1,h2,h3⟩:=h.at' hk;rw[lF h1]at hob;have:ob=ob':=by simpa[aP,h2]using hob.symm
 rw[this];exact h3.dn
end
def gG(C:Ctx)(f:Nat)(H:Heap)(π:List (Nat×Nat))(K i:Nat)(xs ys:List AV):Prop :=
 ∃ as aN,aH C f H i xs=some (as,aN)/\(∀ x∈aN,disjoint x.objs (π.map Prod.fst)=true)/\bU (bV H (π.map Prod.fst)) (fun t=>t) as=ys /\
  aC as=(aC ys).map (sg π)/\(∀ o∈aC ys,o<K)/\as.length=xs.length/\aN.length=xs.length
section
variable {C:Ctx}{f:Nat}{H:Heap}{π:List (Nat×Nat)}{K i:Nat}{xs ys:List AV}
def gG.nil:gG C f H π K i [] []:=⟨[],[],rfl,by simp,rfl,rfl,by simp[aC],rfl,rfl⟩
def gG.flat{a:AV}(hrw:C.rw f i=false)(ha:y9 a=true)(h:gG C f H π K (i+1) xs ys):gG C f H π K i (a::xs) (a::ys):=by
 obtain⟨as,aN,h1,h2,h3,h4,h5,h6,h7⟩:=h;obtain⟨hi,ht⟩:=MS ha;refine⟨a::as,⟨[],[]⟩::aN,dX hrw ha h1,?_,?_,by simp[aC,hi,h4],by simpa[aC,hi]using h5,by simp[h6],by simp[h7]⟩
 .intro x hx;rcases ax2.1 hx with rfl|hx
  .rfl
  .exact h2 x hx
 .simp only[bU,h3];rw[gX a hi (fun _ _=>rfl)]
def slO:AV->List Nat
 | .sl o _ _ _=>[o]
 | _=>[]
def gG.pay{a p:AV}(hrw:C.rw f i=false)(ha:fJ H a=some p)(hi:ids p=[])(hd:disjoint (slO a) (π.map Prod.fst)=true)(h:gG C f H π K (i+1) xs ys):∃ c,gG C f H π K i (a::xs) (.ro c p (i+1)::ys):=by
 obtain⟨as,aN,h1,h2,h3,h4,h5,h6,h7⟩:=h;have key:∃ c x,dY H (i+1) a=some (.ro c p (i+1),x)/\x.objs=slO a:=by
  cases a<;>simp only[fJ,reduceCtorEq]at ha
  case ro c q t'=>
   simp only[axH]at ha;subst ha;exact⟨c,_,rfl,rfl⟩
  case sl o off len g=>
   split at ha
   .rename_i ob hl;split at ha
    .cases ha
    .rename_i hb;exact⟨if ob.z=0/\ah ob.p=0 then 0 else 2,⟨[o],[ob.tg]⟩,by simp[dY,dS,hl,hb,ha],rfl⟩
   .cases ha
 obtain⟨c,x,hx,hxo⟩:=key;refine⟨c,.ro c p (i+1)::as,x::aN,by simp only[aH,hrw,hx,h1],?_,by simp[bU,ren,h3],by simp[aC,ids,h4],by simpa[aC,ids]using h5,by simp[h6],by simp[h7]⟩;intro y hy;rcases ax2.1 hy with rfl|hy
 .rw [hxo];exact hd
 .exact h2 y hy
def gG.ptr{t k o a b g:Nat}{S:List Obj}(hI:Img t H π S)(hrw:C.rw f i=false)(hk:π[k]?=some (o,g))(hK:k<S.length)(h:gG C f H π S.length (i+1) xs ys):gG C f H π S.length i (.ptr o a b g::xs) (.ptr k a b 0::ys):=by
 obtain⟨as,aN,h1,h2,h3,h4,h5,h6,h7⟩:=h;have hin:bV H (π.map Prod.fst) o g=some (k,0):=by have:=hI.bV k 0;unfold gQ at this;rw[hk,qL,if_pos hK]at this;simpa using this
 refine⟨.ptr o a b g::as,⟨[],[]⟩::aN,?_,?_,?_,?_,?_,by simp[h6],by simp[h7]⟩
 .simp only[aH,hrw];simp[dY,dS,tags,h1]
 .intro x hx;rcases ax2.1 hx with rfl|hx
  .rfl
  .exact h2 x hx
 .simp [bU,ren,hin,h3]
 .simp [aC,ids,h4,lF hk]
 .intro x hx;simp only[aC,ids,axV,ayb]at hx;rcases hx with rfl|hx
  .exact hK
  .exact h5 x hx
end
def jO(P:Frame->Heap->Prop)(o:Out):Prop:=(o.ex=.normal\/o.ex=.ret)/\P o.fr o.H
def jO.ret{P:Frame->Heap->Prop}{o:Out}(h:lG P o):jO P o:=⟨.inr h.1,h.2⟩
def Leaves(C:Ctx)(rs:List ResultVar)(n:Nat)(S:List Obj)(Q:List Obj->AV->Prop)(fr:Frame)(E:Heap):Prop :=
 ∃ π' S' v0 l,aT C fr E rs=some l/\aG l=ren (gQ π') (fun t=>t) v0/\Img n E π' S'/\OkS S'/\(∀ k∈tags v0,k=0\/k=n)/\(∀ o∈ids v0,o<S'.length)/\S.length<=S'.length /\
  (∀ k:Nat,k<S.length->∃ g,π'[k]?=some (k,g))/\(∀ (k:Nat) (ob ob':Obj),S[k]?=some ob->S'[k]?=some ob'->ob'.row=ob.row) /\
  (∀ k,S.length<=k->k<S'.length->k∈reach (S'.map some) aA (List.range S.length++ids v0) [])/\Q S' v0
section
variable {C:Ctx}{T:Cf}{f:Nat}{H:Heap}
def Ev1.img(hT:Below C T){fn:Func}{c:Code}{t n:Nat}{π:List (Nat×Nat)}{S:List Obj}{xs ys:List AV}{Q:List Obj->AV->Prop}
 (hF:C.P.funcs[f]?=some fn)(hb:fn.body=some c)(hI:Img t H π S)(hok:OkS S)(hA:gG C f H π S.length 0 xs ys)
 (hR:reach (S.map some) aA (aC ys) []=List.range S.length)(hn:xs.length+1=n)(hng:n<dA)
 (run:∀ E,E.length=S.length->Img n E (pi0 S.length) S->aj (jO (Leaves C fn.results.toList n S Q)) C T f S.length c (numbered 0 (coerce C ys (aI C f))) E) :
 ∃ π'' S' v0 H' τf,Ev1 C f xs H (ren (gQ π'') τf v0,H')/\(∀ k∈tags v0,τf k=0\/τf k=t)/\Img t H' π'' S'/\OkS S'/\(∀ o∈ids v0,o<S'.length)/\Q S' v0/\H.length<=H'.length /\
  (∀ (k o g:Nat),π[k]?=some (o,g)->∃ g',π''[k]?=some (o,g'))/\(∀ (k o g:Nat),S.length<=k->π''[k]?=some (o,g)->H.length<=o) /\
  (∀ j,j<H.length->(∀ (k o g:Nat),π[k]?=some (o,g)->j≠o)->H'[j]?=H[j]?):=by
 obtain⟨as,aN,h1,h2,h3,h4,h5,h6,h7⟩:=hA;have hr1:reach H aA (aC as) []=π.map Prod.fst:=by have:=(yV hI hok aA (aC ys) [] h5 (by simp)).1;rw[aye]at this;rw[h4,this,hR,hI.fst]
 have hpl:(π.map Prod.fst).length=S.length:=by rw[ayB,hI.len]
 have hE:=hI.into n;have hEl:((π.map Prod.fst).map fun o=>(aP H o).map (aQ (bV H (π.map Prod.fst)) (fun _=>n) 0)).length=S.length:=by rw[ayB,hpl]
 obtain⟨⟨ex,fr,E⟩,⟨he,π',S',v0,l,r1,r2,r3,r4,r5,r6,r7,r8,r9,r10,r11⟩,hrun⟩:=run _ hEl hE;simp only at he r1 r3;have hlt:=hI.lt;have hnd:=hI.nodup
 -- what is left behind
 have hri:=yV r3 r4 aA (List.range S.length++ids v0) [] (fun o ho=>by
  rcases axV.1 ho with ho|ho
  .have:=ayh.1 ho;omega
  .exact r6 o ho) (by simp)
 have asC:ids (aG l)=(ids v0).map (sg π'):=by rw[r2];exact Fq v0 fun o ho=>by rw[r3.len];exact r6 o ho
 have hrange:(List.range S.length).map (sg π')=List.range S.length:=by
  refine ayL fun k=>?_;rw[axP];by_cases hk:k<S.length
  .obtain ⟨g,hg⟩:=r8 k hk;rw[ayJ hk];simp[lF hg]
  .rw [ax0 (by simpa using hk)];rfl
 generalize hRR:reach (S'.map some) aA (List.range S.length++ids v0) []=R at *;have hK:reach E aA (List.range (π.map Prod.fst).length++ids (aG l)) []=R.map (sg π'):=by rw[hpl,asC,<- hri.1,ayy,hrange,aye]
 obtain⟨t',hjt,htt⟩:=BX (t:=t) (au ((π.map Prod.fst).map (aP H))) (oJ _ fun o ho ob hob=>by
  rw[hI.fst]at ho;obtain⟨k,hk,rfl⟩:=ayd.1 ho;exact hI.Rl (ayh.1 hk) ob hob)
 have hal:as.length+1=n:=by omega
 have hn0:0<n:=by omega
 -- new objects
 generalize hnew:(R.map (sg π')).filter (fun o=>decide ((π.map Prod.fst).length<=o))=new;have ZP:∀ k,S.length<=k->k<S'.length->sg π' k∈new/\S.length<=sg π' k:=by
  intro k hk hk2;have hge:S.length<=sg π' k:=by
   refine Classical.byContradiction fun hc=>?_;have hc:sg π' k<S.length:=by omega
   obtain⟨g,hg⟩:=r8 _ hc;obtain⟨o,g2,_,h8,_⟩:=r3.at' hk2;have e:=lF h8;rw[e]at hg hc;have:=r3.nd k o _ _ _ _ h8 hg rfl;omega
  refine⟨?_,hge⟩;rw[<- hnew,ay5];exact⟨ayd.2 ⟨k,r10 k hk hk2,rfl⟩,by simpa[hI.len]using hge⟩
 have hmem:∀ k,k<S'.length->sg π' k<(π.map Prod.fst).length\/((π.map Prod.fst).length<=sg π' k/\sg π' k∈new):=by
  intro k hk;rw[hpl];by_cases hk2:k<S.length
  .obtain ⟨g,hg⟩:=r8 k hk2;rw[lF hg];exact .inl hk2
  .obtain ⟨q1,q2⟩:=ZP k (by omega) hk;exact .inr ⟨q2,q1⟩
 have hbt:∀ k,k=0\/k=n->dP (aN++[⟨[],au ((π.map Prod.fst).map (aP H))⟩]) k=some (bk n t' k):=by
  rintro k (rfl|rfl)
  .unfold dP bk;rw[if_pos rfl,if_neg (by omega)]
  .unfold dP bk;rw[if_neg (by omega),if_pos rfl];rw[axS (by omega),show k-1-aN.length=0 by omega];simp only[ayf];exact hjt
 have hgo:∀ k,k=0\/k=n->dN (aN++[⟨[],au ((π.map Prod.fst).map (aP H))⟩]) k=[]:=by
  rintro k (rfl|rfl)
  .rfl
  .unfold dN;rw[if_neg (by omega)];rw[axS (by omega),show k-1-aN.length=0 by omega];rfl
 generalize hL:(aN++[⟨[],au ((π.map Prod.fst).map (aP H))⟩]:List fB)=L at hbt hgo;have hbT:∀ k,k=0\/k=n->bW L k=bk n t' k:=fun k hk=>by unfold bW;rw[hbt k hk];rfl
 have hb0:bW L 0=0:=by rw[hbT 0 (.inl rfl)];unfold bk;rw[if_neg (by omega)]
 have aeW:∀ k,k=0\/k=n->bW L k=0\/bW L k=t:=by
  intro k hk;rw[hbT k hk];unfold bk;split
  .exact htt
  .exact .inl rfl
 have htv:∀ k∈tags (aG l),k=0\/k=n:=by intro k hk;rw[r2,jV]at hk;simp only[List.map_id']at hk;exact r5 k hk
 have hus:∀ x∈tags (aG l)++au ((List.range (π.map Prod.fst).length).map (aP E))++au (new.map (aP E)),x=0\/x=n:=by
  intro x hx;rcases axV.1 hx with hx|hx
  .rcases axV.1 hx with hx|hx
   .exact htv x hx
   .refine oJ _ ?_ x hx;intro o ho ob hob;have ho:=ayh.1 ho;rw[hpl]at ho;obtain⟨g,hg⟩:=r8 o ho;have:=r3.Rl (k:=o) (by omega) ob;rw[lF hg]at this;exact this hob
  .refine oJ _ ?_ x hx;intro o ho ob hob;rw[<- hnew,ay5]at ho;obtain⟨k,hk,rfl⟩:=ayd.1 ho.1;exact r3.Rl (hri.2 k hk) ob hob
 -- back
 have hback:∀ (k:Nat) (ob0:Obj),S'[k]?=some ob0->∃ o' g' ob' o'' g'',π'[k]?=some (o',g')/\E[o']?=some (some ob')/\Like n π' g' ob0 ob'/\aY H (π.map Prod.fst) new E o' g'=some (o'',g'') /\
  (bP (aY H (π.map Prod.fst) new E) (bW L) H (π.map Prod.fst) E 0 (π.map Prod.fst) H++new.map fun o=>(aP E o).map (aQ (aY H (π.map Prod.fst) new E) (bW L) 0))[o'']?=some (some (aQ (aY H (π.map Prod.fst) new E) (bW L) g'' ob')) /\
  At H (π.map Prod.fst) new o' o''/\(o'<(π.map Prod.fst).length->g''=dK H (π.map Prod.fst) o' ob'.g):=by
  intro k ob0 hk;obtain⟨o',g',ob',q1,q2,q3⟩:=r3.ob k ob0 hk;have hkl:=(axK.1 hk).1;have hm:=hmem k hkl;rw[lF q1]at hm;obtain⟨o'',g'',e1,e2,e3,e4⟩:=Gm (τ:=bW L) (new:=new) hnd hlt (show aP E o'=some ob' by simp[aP,q2]) hm;rw[q3.gen]at e1;exact⟨o',g',ob',o'',g'',q1,q2,q3,e1,e2,e3,e4⟩
 generalize hH':bP (aY H (π.map Prod.fst) new E) (bW L) H (π.map Prod.fst) E 0 (π.map Prod.fst) H++(new.map fun o=>(aP E o).map (aQ (aY H (π.map Prod.fst) new E) (bW L) 0))=H' at hback;have EG:∀ k g0,(gQ π' k g0).bind (fun x=>aY H (π.map Prod.fst) new E x.1 x.2)=gQ (π'.map fun x=>(aY H (π.map Prod.fst) new E x.1 x.2).getD (0,0)) k g0:=by
  intro k g0;unfold gQ;rw[axP];by_cases hk:k<S'.length
  .obtain ⟨o',g',ob',o'',g'',q1,_,_,q4,_⟩:=hback k _ (axI hk);rw[q1];simp[q4]
  .rw [ax0 (by rw[r3.len];omega)];rfl
 have hat:∀ k o g,(π'.map fun x=>(aY H (π.map Prod.fst) new E x.1 x.2).getD (0,0))[k]?=some (o,g)->k<S'.length/\∃ o' g',π'[k]?=some (o',g')/\aY H (π.map Prod.fst) new E o' g'=some (o,g)/\At H (π.map Prod.fst) new o' o:=by
  intro k o g hk;rw[axP]at hk;have hkl:k<S'.length:=by refine Classical.byContradiction fun hc=>?_;rw[ax0 (by rw[r3.len];omega)]at hk;cases hk
  obtain⟨o',g',ob',o'',g'',q1,_,_,q4,_,q6,_⟩:=hback k _ (axI hkl);rw[q1]at hk;simp only[axM,q4,ayv,axH,axJ]at hk;obtain⟨rfl,rfl⟩:=hk;exact⟨hkl,o',g',q1,q4,q6⟩
 refine⟨π'.map fun x=>(aY H (π.map Prod.fst) new E x.1 x.2).getD (0,0),S',v0,H',bW L,?_,fun k hk=>aeW k (r5 k hk),?_,r4,r6,r11,?_,?_,?_,?_⟩
 .refine Ev1.of (out:=⟨ex,fr,E⟩) (l:=l) hT hF hb h1 ?_ ?_ he r1 ?_
  .rw [hr1];simp only[ax4,decide_eq_true_eq];exact⟨ax5.2 h2,by omega⟩
  .rw [hr1,h3,hal,hpl];exact hrun
  .rw [hr1];unfold wrap;simp only[hK,hnew,hL];rw[if_pos (ax5.2 fun k hk=>by rw[hbt k (hus k hk)];rfl)];rw[show(tags (aG l)++au ((List.range (π.map Prod.fst).length).map (aP E))++au (new.map (aP E))).flatMap (dN L)=[] from ay6.2 fun k hk=>hgo k (hus k hk)];simp only[ayt,strike,hH',axH,axJ,and_true];rw[r2,oI (ρ3:=gQ (π'.map fun x=>(aY H (π.map Prod.fst) new E x.1 x.2).getD (0,0))) (τ3:=bW L) EG (fun _=>rfl)]
 .refine ⟨by rw[ayB,r3.len],?_,?_⟩
  .intro j k oj gj ok gk e1 e2 e;obtain⟨hj,o1,g1,p1,p2,p3⟩:=hat j oj gj e1;obtain⟨hk,o2,g2,p4,p5,p6⟩:=hat k ok gk e2;refine Classical.byContradiction fun hne=>?_;have ho:o1≠o2:=fun e=>hne (r3.nd j k _ _ _ _ p1 p4 e);exact At.inj hnd hlt p3 p6 ho e
  .intro k ob0 hk;obtain⟨o',g',ob',o'',g'',q1,q2,q3,q4,q5,q6,q7⟩:=hback k ob0 hk;refine⟨o'',g'',aQ (aY H (π.map Prod.fst) new E) (bW L) g'' ob',by rw[axP,q1];simp[q4],q5,⟨?_,rfl,q3.row,q3.ids,?_,?_,?_⟩⟩
   .simp only[aQ];rw[oI (ρ:=aY H (π.map Prod.fst) new E) (ρ2:=idN) (τ:=bW L) (τ2:=tz) (ρ3:=aY H (π.map Prod.fst) new E) (τ3:=tz) (fun o g=>by cases aY H (π.map Prod.fst) new E o g<;>rfl) (fun _=>rfl)];rw[<- oI (ρ:=idN) (τ:=tz) (ρ2:=aY H (π.map Prod.fst) new E) (τ2:=tz) (ρ3:=aY H (π.map Prod.fst) new E) (τ3:=tz) (fun o g=>rfl) (fun _=>rfl) ob'.p];rw[q3.p];exact oI EG (fun _=>rfl) ob0.p
   .intro hr;obtain⟨b1,b2,b3⟩:=q3.bx hr;refine⟨b1,b2,?_⟩;by_cases hkS:k<S.length
    .obtain ⟨g,hg⟩:=r8 k hkS;rw[q1]at hg;simp only[axH,axJ]at hg;obtain⟨rfl,rfl⟩:=hg;obtain⟨o0,g0,ob1,s1,s2,s3⟩:=hI.at' hkS;have hrow:=r9 o' _ _ (axI hkS) hk;have hg0:=(s3.bx (by rw[<- hrow];exact hr)).2.2;rw[q7 (by rw[hpl];exact hkS)];unfold dK;rw[Img.uQ s1];have:aP H o0=some ob1:=by simp[aP,s2]
     simp only[this,s3.gen,hg0,q3.gen,b3,if_true]
    .have:=(ZP k (by omega) (axK.1 hk).1).2;rw[lF q1]at this;unfold aY at q4;split at q4
     .rw [hpl,if_neg (by omega)]at q4;cases hx:idxOf new o' H.length with
      | none=>rw[hx]at q4;cases q4
      | some x=>rw[hx]at q4;simp at q4;exact q4.2.symm
     .cases q4
   .exact aeW _ q3.tg
   .intro x hx;simp only[aQ]at hx;rw[jV]at hx;obtain⟨y,hy,rfl⟩:=ayd.1 hx;exact aeW y (q3.tp y hy)
 .rw [<- hH',axR,eH];omega
 .intro k o g hk;have hkS:k<S.length:=by rw[<- hI.len];exact(axK.1 hk).1
  obtain⟨o',g',ob',o'',g'',q1,q2,q3,q4,q5,q6,q7⟩:=hback k _ (axI (show k<S'.length by omega));refine⟨g'',?_⟩;rw[axP,q1];obtain⟨g2,hg2⟩:=r8 k hkS;rw[q1]at hg2;simp only[axH,axJ]at hg2;obtain⟨rfl,rfl⟩:=hg2;simp only[axM,q4,ayv,axH,axJ,and_true];rcases q6 with⟨_,h8⟩|⟨h8,_⟩
  .rw [Img.uQ hk]at h8;exact(axN h8).symm
  .rw [hpl]at h8;omega
 .intro k o g hk ho;obtain⟨hkl,o',g',p1,p2,p3⟩:=hat k o g ho;have:=(ZP k hk hkl).2;rw[lF p1]at this;rcases p3 with⟨h8,_⟩|⟨_,i,_,h8⟩
  .rw [hpl]at h8;omega
  .omega
 .intro j hj hjn;rw[<- hH'];refine MZ hj ?_;intro hm;obtain⟨x,hx,hx2⟩:=ayd.1 hm;obtain⟨k,hk,hk2⟩:=azr.1 hx;exact hjn k x.1 x.2 (by rw[axI hk,hk2]) hx2.symm
end
def eX{α:Type}{H:List α}{j:Nat}{y:α}(h:H[j]?=some y):j<H.length:=(axK.1 h).1
def setAt{α:Type}{H:List α}{j:Nat}{y x:α}(h:H[j]?=some y):(H.set j x)[j]?=some x:=by
 rw[ayx (eX h)]
def rV{α:Type}{H:List α}{j k:Nat}{y x:α}(h:H[j]?=some y)(hne:k≠j):(H.set k x)[j]?=some y:=by
 rw[axU hne];exact h
def tK{α:Type}{H r:List α}{j:Nat}{y:α}(h:H[j]?=some y):(H++r)[j]?=some y:=by
 rw[axL (eX h)];exact h
section
variable {x p:AV}
def aaU{o i f g:Nat}(h:ren idN tz x=.ptr o i f g):x=.ptr o i f g:=by
 cases x<;>simp only[ren,idN,reduceCtorEq]at h<;>exact h
def CB{o i f g:Nat}(h:ren idN tz x=.sl o i f g):x=.sl o i f g:=by
 cases x<;>simp only[ren,idN,reduceCtorEq]at h<;>exact h
def aap{o g:Nat}(h:ren idN tz x=.map o g):x=.map o g:=by
 cases x<;>simp only[ren,idN,reduceCtorEq]at h<;>exact h
def nR{k:IntKind}{n:Int}(h:ren idN tz x=.int k n):x=.int k n:=by
 cases x<;>simp only[ren,idN,reduceCtorEq]at h<;>exact h
def J3{l:List UInt8}(h:ren idN tz x=.pb l):x=.pb l:=by
 cases x<;>simp only[ren,idN,reduceCtorEq]at h<;>exact h
def aeX{k:IntKind}{l:List Int}(h:ren idN tz x=.pi k l):x=.pi k l:=by
 cases x<;>simp only[ren,idN,reduceCtorEq]at h<;>exact h
def wW{c t:Nat}(h:ren idN tz x=.ro c p t):∃ τ,x=.ro c p τ:=by
 cases x<;>simp only[ren,idN,reduceCtorEq,AV.ro.injEq]at h;obtain⟨rfl,rfl,_⟩:=h;exact⟨_,rfl⟩
def wV{l:List AV}(h:ren idN tz x=.pc l):∃ l',x=.pc l'/\bU idN tz l'=l:=by
 cases x<;>simp only[ren,idN,reduceCtorEq,AV.pc.injEq]at h;exact⟨_,rfl,h⟩
def adp{l:List AV}(h:ren idN tz x=.pm l):∃ l',x=.pm l'/\bU idN tz l'=l:=by
 cases x<;>simp only[ren,idN,reduceCtorEq,AV.pm.injEq]at h;exact⟨_,rfl,h⟩
def fM{a:AV}{l r:List AV}(h:bU idN tz l=a::r):∃ x l',l=x::l'/\ren idN tz x=a/\bU idN tz l'=r:=by
 cases l with
 | nil=>simp[bU]at h
 | cons x l'=>
  simp only[bU,ay3]at h;exact⟨x,l',rfl,h.1,h.2⟩
def qg{l:List AV}(h:bU idN tz l=[]):l=[]:=by
 cases l with
 | nil=>rfl
 | cons x l'=>simp[bU]at h
end
def qK(H:Heap):AV->Nat
 | .ro c _ _=>c
 | .sl o _ _ g=>match live H o g with
  | some ob=>if ob.z=0/\ah ob.p=0 then 0 else 2
  | none=>0
 | _=>0
section
variable {C:Ctx}{f:Nat}{H:Heap}{π:List (Nat×Nat)}{K i:Nat}{xs ys:List AV}
def gG.Wn{a p:AV}(hrw:C.rw f i=false)(ha:fJ H a=some p)(hi:ids p=[])(hd:disjoint (slO a) (π.map Prod.fst)=true)(h:gG C f H π K (i+1) xs ys):gG C f H π K i (a::xs) (.ro (qK H a) p (i+1)::ys):=by
 obtain⟨as,aN,h1,h2,h3,h4,h5,h6,h7⟩:=h;have key:∃ x,dY H (i+1) a=some (.ro (qK H a) p (i+1),x)/\x.objs=slO a:=by
  cases a<;>simp only[fJ,reduceCtorEq]at ha
  case ro c q t'=>
   simp only[axH]at ha;subst ha;exact⟨_,rfl,rfl⟩
  case sl o off len g=>
   split at ha
   .rename_i ob hl;split at ha
    .cases ha
    .rename_i hb;exact⟨⟨[o],[ob.tg]⟩,by simp[dY,dS,hl,hb,ha,qK],rfl⟩
   .cases ha
 obtain⟨x,hx,hxo⟩:=key;refine⟨.ro (qK H a) p (i+1)::as,x::aN,by simp only[aH,hrw,hx,h1],?_,by simp[bU,ren,h3],by simp[aC,ids,h4],by simpa[aC,ids]using h5,by simp[h6],by simp[h7]⟩;intro y hy;rcases ax2.1 hy with rfl|hy
 .rw [hxo];exact hd
 .exact h2 y hy
end
def Leaves.plain{C:Ctx}{rs:List ResultVar}{n:Nat}{S S':List Obj}{Q:List Obj->AV->Prop}{fr:Frame}{E:Heap}{π':List (Nat×Nat)}{l:List AV}
 (hr:aT C fr E rs=some l)(hi:aC l=[])(ht:aW l=[])(hnt:dB l=true)(hI:Img n E π' S')(hok:OkS S')(hl:S.length<=S'.length)
 (hf:∀ k:Nat,k<S.length->∃ g,π'[k]?=some (k,g))(hrow:∀ (k:Nat) (ob ob':Obj),S[k]?=some ob->S'[k]?=some ob'->ob'.row=ob.row)
 (hR:∀ k,S.length<=k->k<S'.length->k∈reach (S'.map some) aA (List.range S.length) [])(hq:Q S' (aG l)):Leaves C rs n S Q fr E:=by
 have h1:ids (aG l)=[]:=by rw[iK hnt];exact hi
 have h2:tags (aG l)=[]:=by rw[gV hnt];exact ht
 exact⟨π',S',aG l,l,hr,(gX _ h1 (fun _ _=>rfl)).symm,hI,hok,(by simp[h2]),by simp[h1],hl,hf,hrow,fun k a b=>by rw[h1,ax1];exact hR k a b,hq⟩
def J7(t:Nat)(H:Heap)(π0:List (Nat×Nat)):List (Nat×Nat)->List Obj->Prop
 | [],[]=>True
 | x::r,ob0::S=>(∃ ob,H[x.1]?=some (some ob)/\Like t π0 x.2 ob0 ob)/\J7 t H π0 r S
 | _,_=>False
def J7.at'{t:Nat}{H:Heap}{π0:List (Nat×Nat)}:∀ {π:List (Nat×Nat)} {S:List Obj},J7 t H π0 π S->∀ (k:Nat) (ob0:Obj),S[k]?=some ob0->∃ o g ob,π[k]?=some (o,g)/\H[o]?=some (some ob)/\Like t π0 g ob0 ob
 | [],[],_,k,ob0,hk=>by simp at hk
 | x::r,ob1::S,h,0,ob0,hk=>by
  obtain⟨⟨ob,h1,h2⟩,_⟩:=h;simp at hk;subst hk;exact⟨x.1,x.2,ob,rfl,h1,h2⟩
 | x::r,ob1::S,h,k+1,ob0,hk=>by
  simpa using J7.at' h.2 k ob0 (by simpa using hk)
 | [],_::_,h,_,_,_=>h.elim
 | _::_,[],h,_,_,_=>h.elim
def J7.len{t:Nat}{H:Heap}{π0:List (Nat×Nat)}:∀ {π:List (Nat×Nat)} {S:List Obj},J7 t H π0 π S->π.length=S.length
 | [],[],_=>rfl
 | x::r,ob1::S,h=>by rw[axY,axY,J7.len h.2]
 | [],_::_,h=>h.elim
 | _::_,[],h=>h.elim
def Img.ofL{t:Nat}{H:Heap}{π:List (Nat×Nat)}{S:List Obj}(h:J7 t H π π S)(hn:(π.map Prod.fst).Nodup):Img t H π S where
 len:=h.len
 nd:=by intro j k oj gj ok gk h1 h2 e;subst e;have e1:=Img.uQ h1;have e2:=Img.uQ h2;obtain⟨l1,e1⟩:=axK.1 e1;obtain⟨l2,e2⟩:=axK.1 e2;exact(azn hn).1 (e1.trans e2.symm)
 ob:=h.at'
def Like.box{t:Nat}{π:List (Nat×Nat)}{g:Nat}{p0:AV}{cap:Option Nat}{z:Nat}{idb:Bool}{tg0:Nat}{ob:Obj}(h:Like t π g ⟨p0,0,cap,z,false,idb,tg0⟩ ob):g=0/\∃ p τ,ob=⟨p,0,cap,z,false,idb,τ⟩/\(τ=0\/τ=t)/\ren idN tz p=ren (gQ π) tz p0/\∀ k∈tags p,k=0\/k=t:=by
 obtain⟨h1,h2,h3,h4,h5,h6,h7⟩:=h;obtain⟨e1,e2,e3⟩:=h5 rfl;subst e3;obtain⟨p,g,cap',z',row,axE,tg⟩:=ob;simp only at h2 h3 h4 h6 e1 e2 h1 h7;subst h2 h3 h4 e1 e2;exact⟨rfl,p,tg,rfl,h6,h1,h7⟩
def Like.WG{t:Nat}{π:List (Nat×Nat)}{p p0:AV}{cap:Option Nat}{z:Nat}{idb:Bool}{tg0 τ:Nat}(h:ren idN tz p=ren (gQ π) tz p0)(hτ:τ=0\/τ=t)(ht:∀ k∈tags p,k=0\/k=t):Like t π 0 ⟨p0,0,cap,z,false,idb,tg0⟩ ⟨p,0,cap,z,false,idb,τ⟩ :=
 ⟨h,rfl,rfl,rfl,fun _=>⟨rfl,rfl,rfl⟩,hτ,ht⟩
def Like.row'{t:Nat}{π:List (Nat×Nat)}{g:Nat}{p0:AV}{cap:Option Nat}{z g0:Nat}{tg0:Nat}{ob:Obj}(h:Like t π g ⟨p0,g0,cap,z,true,false,tg0⟩ ob)(hp:rY p0=true):RwT p0 g ob.tg ob/\(ob.tg=0\/ob.tg=t):=by
 refine⟨⟨?_,h.gen,h.row,h.ids,rfl⟩,h.tg⟩;have:=h.p;cases p0<;>simp only[rY,axZ]at hp
 case pb l=>exact J3 this
 case pi k l=>exact aeX this
 case pn=>
  cases hq:ob.p<;>rw[hq]at this<;>simp only[ren,idN,reduceCtorEq]at this
def kids(ob:Obj):List Nat:=if ob.ids then ids ob.p else[]
def wtF(acc:List Nat):Nat->List Obj->Nat
 | _,[]=>0
 | i,ob::r=>(if i∈acc then 0 else(kids ob).length)+wtF acc (i+1) r
def OV{acc:List Nat}{o:Nat}:∀ (S:List Obj) (i:Nat),o<i->wtF (acc++[o]) i S=wtF acc i S
 | [],_,_=>rfl
 | ob::r,i,h=>by
  unfold wtF;rw[OV r (i+1) (by omega)];have:(i∈acc++[o]) ↔ i∈acc:=by simp;omega
  simp only[this]
def Uc{acc:List Nat}{o:Nat}(ho:o∉acc):∀ (S:List Obj) (i:Nat) (ob:Obj),i<=o->S[o-i]?=some ob->wtF (acc++[o]) i S+(kids ob).length=wtF acc i S
 | [],_,_,_,h=>by simp at h
 | x::r,i,ob,hi,h=>by
  by_cases he:i=o
  .subst he;simp at h;subst h;unfold wtF;rw[OV r (i+1) (by omega),if_pos (by simp),if_neg ho];omega
  .have h2:r[o-(i+1)]?=some ob:=by rw[show o-i=(o-(i+1))+1 by omega]at h;simpa using h
   have:=Uc ho r (i+1) ob (by omega) h2;unfold wtF;have h3:(i∈acc++[o]) ↔ i∈acc:=by simp;omega
   simp only[h3];omega
def tu{S:List Obj}:∀ (n:Nat) (l acc:List Nat),l.length+wtF acc 0 S<=n ->
 (∀ x∈acc,x∈reach (S.map some) n l acc)/\(∀ x∈l,x<S.length->x∈reach (S.map some) n l acc)/\(∀ x ob,x∈reach (S.map some) n l acc->x∉acc->S[x]?=some ob->∀ y∈kids ob,y<S.length->y∈reach (S.map some) n l acc)
 | 0,[],acc,_=>⟨fun x h=>h,fun x h=>(by cases h),fun x ob h h2=>absurd h h2⟩
 | 0,o::r,acc,h=>by simp at h
 | n+1,[],acc,_=>⟨fun x h=>h,fun x h=>(by cases h),fun x ob h h2=>absurd h h2⟩
 | n+1,o::r,acc,h=>by
  simp only[axY]at h;simp only[reach];by_cases hm:acc.contains o=true
  .rw [if_pos hm];obtain⟨h1,h2,h3⟩:=tu (S:=S) n r acc (by omega);refine⟨h1,fun x hx hl=>?_,h3⟩;rcases ax2.1 hx with rfl|hx
   .exact h1 x (by simpa using hm)
   .exact h2 x hx hl
  .rw [if_neg hm];have hma:o∉acc:=by simpa using hm
   by_cases hl:o<S.length
   .have hS:(S.map some)[o]?=some (some S[o]):=by rw[axP,axI hl];rfl
    rw[hS];simp only;have hw:=Uc hma S 0 S[o] (by omega) (by simp);obtain⟨h1,h2,h3⟩:=tu (S:=S) n (kids S[o]++r) (acc++[o]) (by simp only[axR];omega);unfold kids at h1 h2 h3;refine⟨fun x hx=>h1 x (by simp[hx]),fun x hx hxl=>?_,fun x ob hx hxa hob y hy hyl=>?_⟩
    .rcases ax2.1 hx with rfl|hx
     .exact h1 x (by simp)
     .exact h2 x (by simp[hx]) hxl
    .by_cases hxo:x=o
     .subst hxo;rw[axI hl]at hob;obtain rfl:=axN hob;exact h2 y (ayW _ hy) hyl
     .exact h3 x ob hx (by simp[hxa,hxo]) hob y hy hyl
   .have hS:(S.map some)[o]?=none:=ax0 (by simpa using hl);rw[hS];simp only;obtain⟨h1,h2,h3⟩:=tu (S:=S) n r acc (by omega);refine⟨h1,fun x hx hxl=>?_,h3⟩;rcases ax2.1 hx with rfl|hx
    .exact absurd hxl hl
    .exact h2 x hx hxl
def oU{S:List Obj}{l:List Nat}(h:l.length+wtF [] 0 S<=aA){x:Nat}(hx:x∈l)(hl:x<S.length):x∈reach (S.map some) aA l []:=(tu (S:=S) _ _ _ h).2.1 x hx hl
def Cm{S:List Obj}{l:List Nat}(h:l.length+wtF [] 0 S<=aA){x y:Nat}{ob:Obj}(hx:x∈reach (S.map some) aA l [])(hob:S[x]?=some ob)(hy:y∈kids ob)(hl:y<S.length):y∈reach (S.map some) aA l []:=(tu (S:=S) _ _ _ h).2.2 x ob hx (by simp) hob y hy hl
section
variable {ρ:Nat->Nat->Option (Nat×Nat)}{τ:Nat->Nat}{σ:Nat->Nat}
mutual
def LZ(h:∀ o g,∃ g',ρ o g=some (σ o,g')):(v:AV)->AM.ids (ren ρ τ v)=(AM.ids v).map σ
 | .ptr o i f g=>by obtain⟨g',e⟩:=h o g;simp[ren,e,AM.ids]
 | .sl o i f g=>by obtain⟨g',e⟩:=h o g;simp[ren,e,AM.ids]
 | .map o g=>by obtain⟨g',e⟩:=h o g;simp[ren,e,AM.ids]
 | .ro c p t=>rfl
 | .jl p i f t=>rfl
 | .agg p=>by simp only[ren,AM.ids,LZ h p]
 | .tup l=>by simp only[ren,AM.ids,vJ h l]
 | .fn f l=>by simp only[ren,AM.ids,vJ h l]
 | .pc l=>by simp only[ren,AM.ids,vJ h l]
 | .pr e l=>by simp only[ren,AM.ids,vJ h l]
 | .pm l=>by simp only[ren,AM.ids,vJ h l]
 | .top=>rfl
 | .bool _=>rfl
 | .int _ _=>rfl
 | .str _=>rfl
 | .gZ=>rfl
 | .jS=>rfl
 | .iL=>rfl
 | .pn=>rfl
 | .pb _=>rfl
 | .pi _ _=>rfl
def vJ(h:∀ o g,∃ g',ρ o g=some (σ o,g')):(l:List AV)->aC (bU ρ τ l)=(aC l).map σ
 | []=>rfl
 | a::r=>by simp only[bU,aC,LZ h a,vJ h r,ayy]
end
def Uo(d:Nat)(v:AV):AM.ids (dL d v)=(AM.ids v).map (·+d):=LZ (fun o g=>⟨g,rfl⟩) v
def FH(d:Nat)(v:AV):tags (dL d v)=tags v:=by unfold dL;rw[jV];simp
def Ur{π ex:List (Nat×Nat)}{τ:Nat->Nat}{d:Nat}(hd:π.length=d)(v:AV):ren (gQ (π++ex)) τ (dL d v)=ren (gQ ex) τ v:=by
 refine oI (fun o g=>?_) (fun _=>rfl) v;show(π++ex)[o+d]?=ex[o]?;rw[axS (by omega)];congr 1;omega
def PE{π:List (Nat×Nat)}{τ:Nat->Nat}{d:Nat}(v:AV):ren (gQ π) τ (dL d v)=ren (gQ (π.drop d)) τ v:=by
 refine oI (fun o g=>?_) (fun _=>rfl) v;show π[o+d]?=(π.drop d)[o]?;rw[ayT,azH]
end
def Like.asD{t:Nat}{π:List (Nat×Nat)}{g:Nat}{p0:AV}{cap:Option Nat}{z g0:Nat}{tg0:Nat}{ob:Obj}(h:Like t π g ⟨p0,g0,cap,z,true,false,tg0⟩ ob)(hi:AM.ids p0=[])(ht:tags p0=[]):RwT p0 g ob.tg ob/\(ob.tg=0\/ob.tg=t):=by
 refine⟨⟨?_,h.gen,h.row,h.ids,rfl⟩,h.tg⟩;have h1:ren idN tz ob.p=p0:=by rw[h.p];show ren (gQ π) tz p0=p0;exact gX p0 hi (by simp[ht])
 have h2:AM.ids ob.p=[]:=by have:=SQ.su (τ:=tz) ob.p;rw[<- this];show AM.ids (ren idN tz ob.p)=[];rw[h1];exact hi
 have h3:tags ob.p=[]:=by have:=jV (ρ:=idN) (τ:=tz) ob.p;rw[h1,ht]at this;exact List.map_eq_nil_iff.1 this.symm
 rw[gX ob.p h2 (by simp[h3])]at h1;exact h1
def Like.WE{t:Nat}{π:List (Nat×Nat)}{g τ:Nat}{p0:AV}{cap:Option Nat}{z g0:Nat}{tg0:Nat}{ob:Obj}(h:RwT p0 g τ ob)(hi:AM.ids p0=[])(ht:tags p0=[])(hτ:τ=0\/τ=t):Like t π g ⟨p0,g0,cap,z,true,false,tg0⟩ ob:=by
 refine⟨?_,h.g,h.row,h.ids,(fun h=>by cases h),(by rw[h.tg];exact hτ),?_⟩
 .rw [h.p];show ren idN tz p0=ren (gQ π) tz p0;rw[gX p0 hi (by simp[ht]),gX p0 hi (by simp[ht])]
 .rw [h.p,ht];simp
def rwF(p:AV):Obj:=⟨p,0,none,0,true,false,0⟩
def eG(t:Nat)(H:Heap):List (Nat×Nat)->List AV->Prop
 | [],[]=>True
 | x::r,p::ps=>(∃ τ ob,(τ=0\/τ=t)/\H[x.1]?=some (some ob)/\RwT p x.2 τ ob)/\eG t H r ps
 | _,_=>False
def eG.len{t:Nat}{H:Heap}:∀ {ex:List (Nat×Nat)} {ps:List AV},eG t H ex ps->ex.length=ps.length
 | [],[],_=>rfl
 | x::r,p::ps,h=>by rw[axY,axY,eG.len h.2]
 | [],_::_,h=>h.elim
 | _::_,[],h=>h.elim
def eG.at'{t:Nat}{H:Heap}:∀ {ex:List (Nat×Nat)} {ps:List AV},eG t H ex ps->∀ (k:Nat) (p:AV),ps[k]?=some p->∃ o g τ ob,ex[k]?=some (o,g)/\(τ=0\/τ=t)/\H[o]?=some (some ob)/\RwT p g τ ob
 | [],[],_,k,p,hk=>by simp at hk
 | x::r,q::ps,h,0,p,hk=>by
  obtain⟨⟨τ,ob,h1,h2,h3⟩,_⟩:=h;simp at hk;subst hk;exact⟨x.1,x.2,τ,ob,rfl,h1,h2,h3⟩
 | x::r,q::ps,h,k+1,p,hk=>by simpa using eG.at' h.2 k p (by simpa using hk)
 | [],_::_,h,_,_,_=>h.elim
 | _::_,[],h,_,_,_=>h.elim
def eG.of{t:Nat}{H:Heap}:∀ {ex:List (Nat×Nat)} {ps:List AV},ex.length=ps.length->(∀ (k:Nat) (p:AV),ps[k]?=some p->∃ o g τ ob,ex[k]?=some (o,g)/\(τ=0\/τ=t)/\H[o]?=some (some ob)/\RwT p g τ ob)->eG t H ex ps
 | [],[],_,_=>trivial
 | x::r,q::ps,hl,h=>by
  refine⟨?_,eG.of (by simpa using hl) fun k p hk=>by simpa using h (k+1) p (by simpa using hk)⟩;obtain⟨o,g,τ,ob,h1,h2,h3,h4⟩:=h 0 q rfl;simp at h1;subst h1;exact⟨τ,ob,h2,h3,h4⟩
 | [],_::_,hl,_=>by simp at hl
 | _::_,[],hl,_=>by simp at hl
def eG.keep{t:Nat}{H H':Heap}:∀ {ex:List (Nat×Nat)} {ps:List AV},eG t H ex ps->(∀ x∈ex,H'[x.1]?=H[x.1]?)->eG t H' ex ps
 | [],[],_,_=>trivial
 | x::r,p::ps,h,hk=>by
  obtain⟨⟨τ,ob,h1,h2,h3⟩,h4⟩:=h;exact⟨⟨τ,ob,h1,by rw[hk x (ays ..)];exact h2,h3⟩,eG.keep h4 fun y hy=>hk y (aya _ hy)⟩
 | [],_::_,h,_=>h.elim
 | _::_,[],h,_=>h.elim
def eG.lt{t:Nat}{H:Heap}{ex:List (Nat×Nat)}{ps:List AV}(h:eG t H ex ps):∀ x∈ex,x.1<H.length:=by
 intro x hx;obtain⟨k,hk,rfl⟩:=azr.1 hx;have hl:=h.len;obtain⟨o,g,τ,ob,h1,_,h3,_⟩:=h.at' k ps[k] (axI (by omega));rw[axI hk]at h1;rw[axN h1];exact(axK.1 h3).1
section
variable {t:Nat}{H:Heap}{π ex:List (Nat×Nat)}{S:List Obj}{ps:List AV}
def Img.append(h:Img t H π S)(hok:OkS S)(hr:eG t H ex ps)(hf:∀ p∈ps,AM.ids p=[]/\tags p=[])(hn:(π.map Prod.fst++ex.map Prod.fst).Nodup):Img t H (π++ex) (S++ps.map rwF) where
 len:=by simp[h.len,hr.len]
 nd:=by intro j k oj gj ok gk h1 h2 e;subst e;have e1:=Img.uQ h1;have e2:=Img.uQ h2;rw[ayy]at e1 e2;obtain⟨l1,e1⟩:=axK.1 e1;obtain⟨l2,e2⟩:=axK.1 e2;exact(azn hn).1 (e1.trans e2.symm)
 ob:=by
  intro k ob0 hk;by_cases hkl:k<S.length
  .rw [axL hkl]at hk;obtain⟨o,g,ob,h1,h2,h3⟩:=h.ob k ob0 hk;refine⟨o,g,ob,by rw[axL (by rw[h.len];exact hkl)];exact h1,h2,⟨?_,h3.gen,h3.row,h3.ids,h3.bx,h3.tg,h3.tp⟩⟩;rw[h3.p];refine fV _ (fun o' g' ho=>?_) fun _ _=>rfl;have:=hok k ob0 hk o' ho;unfold gQ;rw[axL (by rw[h.len];exact this)]
  .rw [axS (by omega),axP]at hk;cases hp:ps[k-S.length]? with
   | none=>rw[hp]at hk;cases hk
   | some p=>
    rw[hp]at hk;obtain rfl:=axN hk;obtain⟨o,g,τ,ob,h1,h2,h3,h4⟩:=hr.at' _ p hp;obtain⟨f1,f2⟩:=hf p (axT hp);exact⟨o,g,ob,by rw[axS (by rw[h.len];omega),h.len];exact h1,h3,Like.WE h4 f1 f2 h2⟩
def OkS.rows(hok:OkS S)(hf:∀ p∈ps,AM.ids p=[]/\tags p=[]):OkS (S++ps.map rwF):=by
 intro k ob0 hk o ho;by_cases hkl:k<S.length
 .rw [axL hkl]at hk;have:=hok k ob0 hk o ho;simp;omega
 .rw [axS (by omega),axP]at hk;cases hp:ps[k-S.length]? with
  | none=>rw[hp]at hk;cases hk
  | some p=>
   rw[hp]at hk;obtain rfl:=axN hk;have:=(hf p (axT hp)).1;simp only[rwF]at ho;rw[this]at ho;cases ho
def Img.pre(h:Img t H π (S++ps.map rwF))(hok:OkS S):Img t H (π.take S.length) S where
 len:=by have:=h.len;simp at this ⊢;omega
 nd:=by
  intro j k oj gj ok gk h1 h2 e;rw[ayD]at h1 h2;split at h1
  .split at h2
   .exact h.nd j k _ _ _ _ h1 h2 e
   .cases h2
  .cases h1
 ob:=by intro k ob0 hk;have hkl:=(axK.1 hk).1;obtain⟨o,g,ob,h1,h2,h3⟩:=h.ob k ob0 (by rw[axL hkl];exact hk);refine⟨o,g,ob,by rw[ayD,if_pos hkl];exact h1,h2,⟨?_,h3.gen,h3.row,h3.ids,h3.bx,h3.tg,h3.tp⟩⟩;rw[h3.p];refine fV _ (fun o' g' ho=>?_) fun _ _=>rfl;have:=hok k ob0 hk o' ho;unfold gQ;rw[ayD,if_pos this]
def Img.rows(h:Img t H π (S++ps.map rwF))(hf:∀ p∈ps,AM.ids p=[]/\tags p=[]):eG t H (π.drop S.length) ps:=by
 refine eG.of ?_ ?_
 .have:=h.len;simp at this ⊢;omega
 .intro k p hk;have hkl:=(axK.1 hk).1;obtain⟨o,g,ob,h1,h2,h3⟩:=h.ob (S.length+k) (rwF p) (by rw[axS (by omega),axP,show S.length+k-S.length=k by omega,hk];rfl);obtain⟨f1,f2⟩:=hf p (axT hk);obtain⟨q1,q2⟩:=Like.asD h3 f1 f2;exact⟨o,g,ob.tg,ob,by rw[ayT];exact h1,q2,h2,q1⟩
def Ak(acc:List Nat)(ps:List AV):∀ i,wtF acc i (ps.map rwF)=0:=by
 induction ps with
 | nil=>intro i;rfl
 | cons p r ih=>
  intro i;simp only[ax9,wtF,ih];simp[kids,rwF]
def ES(acc:List Nat):∀ (S R:List Obj) (i:Nat),wtF acc i (S++R)=wtF acc i S+wtF acc (i+S.length) R
 | [],R,i=>by simp[wtF]
 | x::S,R,i=>by
  simp only[ayj,wtF];rw[ES acc S R (i+1),axY,show i+1+S.length=i+(S.length+1)by omega];omega
end
section
variable {C:Ctx}{T:Cf}{f:Nat}{H:Heap}
def abZ(C:Ctx)(rs:List ResultVar)(n:Nat)(Q:AV->List AV->Prop)(fr:Frame)(E:Heap):Prop :=
 ∃ l ex ps w0,aT C fr E rs=some l/\eG n E ex ps/\(∀ p∈ps,ids p=[]/\tags p=[])/\(ex.map Prod.fst).Nodup/\(ids w0).length<=1000/\(∀ k∈ids w0,k<ex.length)/\(∀ k,k<ex.length->k∈ids w0)/\(∀ k∈tags w0,k=0\/k=n)/\aG l=ren (gQ ex) (fun t=>t) w0/\Q w0 ps
def Ev1.rows(hT:Below C T){fn:Func}{c:Code}{n:Nat}{xs ys:List AV}{Q:AV->List AV->Prop}
 (hF:C.P.funcs[f]?=some fn)(hb:fn.body=some c)(hA:gG C f H [] 0 0 xs ys)(hi:aC ys=[])(hn:xs.length+1=n)(hng:n<dA)
 (run:aj (jO (abZ C fn.results.toList n Q)) C T f 0 c (numbered 0 (coerce C ys (aI C f))) []) :
 ∃ H' w0 ex ps τf,Ev1 C f xs H (ren (gQ ex) τf w0,H')/\(∀ k∈tags w0,τf k=0)/\eG 0 H' ex ps/\(∀ x∈ex,H.length<=x.1)/\(ex.map Prod.fst).Nodup/\Q w0 ps/\H.length<=H'.length/\(∀ j,j<H.length->H'[j]?=H[j]?):=by
 have hI:∀ t,Img t H [] []:=fun t=>⟨rfl,fun j k oj gj ok gk h1 h2 e=>by simp at h1,fun k ob0 h=>by simp at h⟩;obtain⟨π'',S',v0,H',τf,hE,hτf,hI',hok',hid,⟨w0,ps,hS',hv0,hQ,hf⟩,hlen,hfix,hnew,hrest⟩:=Ev1.img (C:=C) (T:=T) (f:=f) (H:=H) (t:=0) (n:=n) (π:=[]) (S:=[]) (xs:=xs) (ys:=ys)
  (Q:=fun S' v0=>∃ w0 ps,S'=ps.map rwF/\v0=w0/\Q w0 ps/\∀ p∈ps,ids p=[]/\tags p=[]) hT hF hb (hI 0) (fun k ob h=>by simp at h) hA
  (by rw[hi];rfl) hn hng (by
   intro E hEl hEI;obtain rfl:E=[]:=ayk hEl;obtain⟨out,hout,hrun⟩:=run;refine⟨out,⟨hout.1,?_⟩,hrun⟩;obtain⟨l,ex,ps,w0,hr,D5,hf,hnd,hw0,hw1,hw2,hw3,hw4,hQ⟩:=hout.2;have Wp:=D5.len;have hI0:Img n out.H [] []:=⟨rfl,fun j k oj gj ok gk h1 h2 e=>by simp at h1,fun k ob0 h=>by simp at h⟩;have hI2:=hI0.append (fun k ob h=>by simp at h) D5 hf (by simpa using hnd);have hS:([]:List Obj)++ps.map rwF=ps.map rwF:=rfl;rw[hS,ax8]at hI2;have hok2:OkS (ps.map rwF):=by have:=OkS.rows (S:=[]) (fun k ob h=>by simp at h) hf;exact this
   refine⟨ex,ps.map rwF,w0,l,hr,hw4,hI2,hok2,hw3,fun k hk=>by rw[ayB];have:=hw1 k hk;omega,ayF _,fun k hk=>by simp at hk,fun k ob ob' h=>by simp at h,fun k h1 h2=>?_,w0,ps,rfl,rfl,hQ,hf⟩;rw[ayB]at h2;refine oU ?_ (ay2 _ (hw2 k (by omega))) (by rw[ayB];exact h2);rw[Ak];simp only[ax3,ay4,ax8];show _<=100000;omega)
 subst hS' hv0;have hR:=Img.rows (S:=[]) (ps:=ps) (by simpa using hI') hf;rw[ax3,ayZ]at hR;refine⟨H',v0,π'',ps,τf,hE,fun k hk=>(hτf k hk).elim id id,hR,fun x hx=>?_,hI'.nodup,hQ,hlen,fun j hj=>hrest j hj fun k o g h=>by simp at h⟩;obtain⟨k,hk,rfl⟩:=azr.1 hx;exact hnew k _ _ (ayF _) (axI hk)
end
end Go.AM
namespace Go.AM
open Go
def vM(H:Heap):AV->Nat
 | .ro _ _ t=>t
 | .sl o _ _ g=>match live H o g with
  | some ob=>ob.tg
  | none=>0
 | _=>0
section
variable {C:Ctx}{H:Heap}{f:Nat}{T:Cf}
def Dl{k:Nat}{a p:AV}(ha:fJ H a=some p):dY H k a=some (.ro (qK H a) p k,⟨slO a,[vM H a]⟩):=by
 cases a<;>simp only[fJ,reduceCtorEq]at ha
 case ro c q t'=>
  simp only[axH]at ha;subst ha;rfl
 case sl o off len g=>
  split at ha
  .rename_i ob hl;split at ha
   .cases ha
   .rename_i hb;simp[dY,dS,hl,hb,ha,qK,vM,slO]
  .cases ha
def ZQ{aN:List fB}{v:AV}{H1:Heap}{o g k k':Nat}{ob:Obj}(hi:ids v=[o])(ht:tags v=[])(hl:live H1 o g=some ob)(hob:ob.ids=false)(hp:ids ob.p=[])(hpt:tags ob.p=[])(hpm:∀ l,ob.p≠.pm l)(htg:ob.tg=k)(hb:dP aN k=some k') :
 wrap H [] aN v H1=some (ren (fun o' g'=>if o'=o/\g'=g then some (H.length,0)else none) (fun t=>t) v,H++[some { ob with g:=0,tg:=k' }]):=by
 obtain⟨h1,h2⟩:=cZ.1 hl;unfold wrap;have hat:aP H1 o=some ob:=by simp[aP,h1]
 have hρ:ren (aY H [] [o] H1) (bW aN) v=ren (fun o' g'=>if o'=o/\g'=g then some (H.length,0)else none) (fun t=>t) v:=by
  have key:∀ o' g',o'∈ids v->aY H [] [o] H1 o' g'=if o'=o/\g'=g then some (H.length,0)else none:=by
   intro o' g' hm;rw[hi]at hm;simp only[ayb]at hm;subst hm;unfold aY;by_cases hg:g'=g
   .subst hg;rw[hl];simp[idxOf]
   .have:live H1 o' g'=none:=by simp only[live,h1];rw[if_neg (fun e=>hg (e.symm.trans h2))]
    rw[this];simp[hg]
  exact fV v (fun o' g' hm=>key o' g' hm) (by simp[ht])
 have hto:dn ob=[k]:=by unfold dn;rw[hob,htg];cases hq:ob.p<;>first|rfl|exact absurd hq (hpm _)
 have hB1:bW aN k=k':=by unfold bW;rw[hb];rfl
 have htN:uf v=[]:=azu.2 fun t h=>by have:=Df h;rw[ht]at this;cases this
 have adM:lu ob=[]:=by unfold lu;rw[if_pos (by simp[hob,hpt])]
 have hfn:∀ l:List Nat,l.filter (fun o=>([]:List Nat).contains o)=[]:=fun l=>by simp
 simp only[ax3,ay4,ax8,hi,yI h1 hob,ht,au,dD,htN,adM,ax1,aye,hat,hto,ax9,ayF,decide_true,azi,ayt,bP];simp only[azg,aAf,hb,aAa,aAe,if_true,azK,hfn,strike,axM,axH,axJ];refine⟨hρ,?_⟩;have hr:ren (aY H [] [o] H1) (bW aN) ob.p=ob.p:=gX ob.p hp (by rw[hpt];simp);simp only[aQ,hr,htg,hB1]
def Ev1.newT(hT:Below C T){args xs:List AV}{aN:List fB}{fn:Func}{c:Code}{n tg0:Nat}{bo:List Nat}{p:AV}{rest:List AV}
 (hF:C.P.funcs[f]?=some fn)(hb:fn.body=some c)(hl:aH C f H 0 args=some (xs,aN))(h0:aN[0]?=some ⟨bo,[tg0]⟩)(hi:aC xs=[])(hn:xs.length+1<dA)(hri:aC rest=[])(hrt:aW rest=[])(hnt:dB rest=true)
 (hpi:ids p=[])(hpt:tags p=[])(hpm:∀ l,p≠.pm l)
 (h:aj (lG fun fr H1=>∃ o g τ ob,(τ=0\/τ=1)/\aT C fr H1 fn.results.toList=some (.sl o 0 n g::rest)/\H1[o]?=some (some ob)/\RwT p g τ ob) C T f 0 c (numbered 0 (coerce C xs (aI C f))) []) :
 ∃ τ ob,Ev1 C f args H (aG (.sl H.length 0 n 0::rest),H++[some ob])/\RwT p 0 τ ob/\(τ=0\/τ=tg0):=by
 obtain⟨⟨ex,fr,H1⟩,⟨he,o,g,τ,ob,hτ,hr,ho,hw⟩,hrun⟩:=h;simp only at he hr ho;subst he;have h0':(aN++[⟨[],au (([]:List Nat).map (aP H))⟩])[0]?=some ⟨bo,[tg0]⟩:=by
  cases aN with
  | nil=>cases h0
  | cons x r=>exact h0
 have hbk:∃ k',dP (aN++[⟨[],au (([]:List Nat).map (aP H))⟩]) τ=some k'/\(k'=0\/k'=tg0):=by
  rcases hτ with rfl|rfl
  .exact ⟨0,rfl,.inl rfl⟩
  .refine ⟨tg0,?_,.inr rfl⟩;unfold dP;rw[if_neg (by omega),show 1-1=0 by omega,h0'];simp[bY,dJ];exact fun e=>e.symm
 obtain⟨k',hk',hk2⟩:=hbk;refine⟨k',{ ob with g:=0,tg:=k' },?_,⟨hw.p,rfl,hw.row,hw.ids,rfl⟩,hk2⟩;refine Ev1.of (out:=⟨.ret,fr,H1⟩) (l:=.sl o 0 n g::rest) hT hF hb hl ?_ ?_ (.inr rfl) hr ?_
 .rw [hi,dH];simp only[ax4,decide_eq_true_eq];exact⟨ax5.2 fun x _=>jm x.objs,hn⟩
 .rw [hi,dH,dZ xs hi (fun _ _=>rfl)];exact hrun
 .rw [hi,dH];rw[ZQ (o:=o) (g:=g) (k:=τ) (k':=k') (ob:=ob) (by rw[iK (l:=.sl o 0 n g::rest) hnt];simp[aC,ids,hri]) (by rw[gV (l:=.sl o 0 n g::rest) hnt];simp[aW,tags,hrt]) (by simp[live,ho,hw.g]) hw.ids (by rw[hw.p];exact hpi) (by rw[hw.p];exact hpt) (by rw[hw.p];exact hpm) hw.tg hk'];rw[sF (w:=.sl H.length 0 n 0) (by simp[ren]) (dZ rest hri (fun t ht=>rfl)) (by exact hnt) (by exact hnt)]
def Ev1.bW(hT:Below C T){args xs:List AV}{aN:List fB}{fn:Func}{c:Code}{tg0:Nat}{bo:List Nat}{l:List AV}
 (hF:C.P.funcs[f]?=some fn)(hb:fn.body=some c)(hl:aH C f H 0 args=some (xs,aN))(h0:aN[0]?=some ⟨bo,[tg0]⟩)(hi:aC xs=[])(hn:xs.length+1<dA)
 (h:aj (lG fun fr H1=>aT C fr H1 fn.results.toList=some l) C T f 0 c (numbered 0 (coerce C xs (aI C f))) [])
 (hv:ids (aG l)=[])(ht:∀ k∈tags (aG l),k=0\/k=1)(htN:uf (aG l)=[]):Ev1 C f args H (ren (fun _ _=>none) (fun k=>if k=1 then tg0 else 0) (aG l),H):=by
 obtain⟨⟨ex,fr,H1⟩,⟨he,hr⟩,hrun⟩:=h;simp only at he hr;subst he;have h0':(aN++[⟨[],au (([]:List Nat).map (aP H))⟩])[0]?=some ⟨bo,[tg0]⟩:=by
  cases aN with
  | nil=>cases h0
  | cons x r=>exact h0
 have hbt:∀ k∈tags (aG l),dP (aN++[⟨[],au (([]:List Nat).map (aP H))⟩]) k=some (if k=1 then tg0 else 0):=by
  intro k hk;rcases ht k hk with rfl|rfl
  .rfl
  .unfold dP;rw[if_neg (by omega),show 1-1=0 by omega,h0',if_pos rfl];simp[bY,dJ];exact fun e=>e.symm
 refine Ev1.of (out:=⟨.ret,fr,H1⟩) hT hF hb hl ?_ ?_ (.inr rfl) hr ?_
 .rw [hi,dH];simp only[ax4,decide_eq_true_eq];exact⟨ax5.2 fun x _=>jm x.objs,hn⟩
 .rw [hi,dH,dZ xs hi (fun _ _=>rfl)];exact hrun
 .rw [hi,dH];clear h0';unfold wrap;generalize (aN++[⟨[],au (([]:List Nat).map (aP H))⟩]:List fB)=L at *;have hfn:∀ l:List Nat,l.filter (fun o=>([]:List Nat).contains o)=[]:=fun l=>by simp
  simp only[ax3,ay4,ax8,hv,dH,ayt,aye,au,dD,htN,ax1,azK,hfn];rw[if_pos (ax5.2 fun k hk=>by rw[hbt k hk];rfl)];simp only[strike,bP,axH,axJ,and_true];exact fV _ (fun o g h=>by rw[hv]at h;cases h) (fun k hk=>by unfold AM.bW;rw[hbt k hk];rfl)
end
end Go.AM
