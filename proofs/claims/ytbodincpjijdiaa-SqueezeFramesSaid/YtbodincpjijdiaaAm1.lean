/- The abstract machine, part 1: a deterministic evaluator for the program's code and the proof that what it tells is so. Conditions: none beyond the theorems' own. -/
import Derived.Laws.Sem
import Derived.MapKept
import Derived.WideKeyRuns
import Derived.Test.YtbodincpjijdiaaAm0
set_option linter.defProp false
set_option linter.unusedSimpArgs false
set_option linter.unusedVariables false
set_option maxRecDepth 100000
set_option maxHeartbeats 8000000
namespace Go.AM
def sH.part{C:Ctx}{K:Kx}{T:Nat->Nat->Prop}{t:TypeId}{l:List AV}{cs:Array Value}{q:AV}{off:Nat}(hc:sH K T l (fun j=>cs[j]?))(hl:l.length=cs.size)
 (hlen:((l.drop off).take (sizeT C t)).length=sizeT C t)(hq:nV C t ((l.drop off).take (sizeT C t))=some q) :
 aF K T (.agg q) (.agg (cs.extract off (off+sizeT C t))):=by
 have h1:=sH.sub hc off (sizeT C t);have hle:sizeT C t≠0->off+sizeT C t<=cs.size:=by intro h0;simp at hlen;omega
 have hget:∀ j,j<sizeT C t->(cs.extract off (off+sizeT C t))[j]?=cs[off+j]?:=by intro j hj;have:=hle (by omega);simp[Array.getElem?_extract];omega
 have h2:sH K T ((l.drop off).take (sizeT C t)) (fun j=>(cs.extract off (off+sizeT C t))[j]?):=by intro j a ha;obtain⟨v,h3,h4⟩:=h1 j a ha;exact⟨v,by rw[<- h3];exact hget j (vY ha).2,h4⟩
 obtain⟨h3,h4⟩:=yL h2 hq;simp only[aF,aK];refine⟨_,rfl,?_,h3⟩;rw[h4,hlen];by_cases h0:sizeT C t=0
 .simp [h0];omega
 .have:=hle h0;simp;omega
def Vy{C:Ctx}{K:Kx}{T:Nat->Nat->Prop}{t:TypeId}{a x:AV}{n:Nat}{v:Value}(hv:aF K T a v)(h:fO C t a n=some x) :
 ∃ u,(Instr.field t v n).run C.P K.w=.ok u K.w/\aF K T x u:=by
 unfold fO at h;split at h
 .rename_i l fd hfd;obtain⟨fs,hu,hf⟩:=Bh hfd;simp only[aF,aK]at hv;obtain⟨cs,rfl,h1,h2⟩:=hv;simp only[aV,ah,aS,ayQ]at h1;have go:∀ u,(part fd.type cs fd.offset).run C.P K.w=.ok u K.w->(Instr.field t (.agg cs) n).run C.P K.w=.ok u K.w:=by intro u hp;simp[Instr.field,bg hu,hf,asAgg,hp]
  split at h
  .rename_i ha;obtain⟨d,hd⟩:=xM ha;split at h
   .rename_i hlen;simp only[ax7]at h;obtain⟨q,hq,rfl⟩:=h;refine⟨_,go _ ?_,sH.part h2 h1.symm hlen hq⟩;simp[part,rO hd,ha,run_sizeOf hd]
   .cases h
  .rename_i ha;split at h
   .rename_i hok;obtain⟨d,hd,_⟩:=sJ hok;obtain⟨u,h3,_,h4⟩:=h2 _ _ h;refine⟨u,go u ?_,aF.s h4⟩;simp only at h3;simp[part,rO hd,ha,h3]
   .cases h
 .cases h
def Vz{C:Ctx}{K:Kx}{T:Nat->Nat->Prop}{t:TypeId}{a ix x:AV}{v vi:Value}(hv:aF K T a v)(hi:aF K T ix vi)(h:Qq C t a ix=some x) :
 ∃ u,(Instr.index t v vi).run C.P K.w=.ok u K.w/\aF K T x u:=by
 unfold Qq at h;split at h
 .rename_i k n;have:=hi.int;subst this;split at h
  .rename_i s;have:=hv.str;subst this;split at h
   .rename_i hu;have hu':=Eb hu;split at h
    .rename_i h0;simp only[ax7]at h;obtain⟨b,hb,rfl⟩:=h;refine⟨.int .u8 b.toNat,?_,by simp[aF,aK,aU,RV,qP]⟩;have hg:(⟨⟨s⟩⟩:ByteArray)[n.toNat]?=some b:=by obtain⟨hlt,hb'⟩:=axK.1 hb;exact(getElem?_pos (⟨⟨s⟩⟩:ByteArray) n.toNat hlt).trans (congrArg some hb')
     simp[Instr.index,asIntOf,bg hu',h0,hg]
    .cases h
   .cases h
  .rename_i p;split at h
   .rename_i len e hu;have hu':=bf hu (by simp);split at h
    .rename_i hc;obtain⟨h0,h1,hs⟩:=hc;simp only[aF,aK]at hv;obtain⟨cs,rfl,h2,h3⟩:=hv;have go:∀ d,C.P.underlying e=some d->∀ u,(part e cs (n.toNat * sizeT C e)).run C.P K.w=.ok u K.w->(Instr.index t (.agg cs) (.int k n)).run C.P K.w=.ok u K.w:=by intro d hd u hp;simp[Instr.index,asIntOf,bg hu',h0,h1,run_sizeOf hd,hp]
     split at h
     .rename_i ha;obtain⟨d,hd⟩:=xM ha;split at h
      .rename_i es l;simp only[ax7]at h;obtain⟨q,hq,rfl⟩:=h;simp only[iZ,GP]at h3;obtain⟨r,rfl,h4,h5⟩:=h3.2 _ _ hq;simp only[aS]at hs;subst hs;have hlt:=(axK.1 hq).1;have hle:(n.toNat+1)*sizeT C e<=l.length*sizeT C e:=ayi _ hlt;rw[azs]at hle;simp only[aV,ah,aS]at h2;refine⟨_,go d hd _ (by simp[part,rO hd,ha,run_sizeOf hd];rfl),?_⟩;simp only[aF,aK];refine⟨_,rfl,by simp[aV,ah,aS];omega,?_⟩;simp only[iZ,GP];intro j b hb;obtain⟨u,h6,h7⟩:=h5 j b hb;refine⟨u,?_,h7⟩;have hj:=(axK.1 hb).1;rw[<- h6];simp[Array.getElem?_extract];omega
      .cases h
     .rename_i ha;split at h
      .rename_i hok;obtain⟨d,hd,_⟩:=sJ hok;obtain⟨u,h4,_,h5⟩:=GP.get (aU.xO K T) h3 h;refine⟨u,go d hd u ?_,aF.s h5⟩;simp only[ay0]at h4;rw[hs]at h4;simp[part,rO hd,ha,h4]
      .cases h
    .cases h
   .cases h
  .cases h
 .cases h
def abT{C:Ctx}{K:Kx}{T:Nat->Nat->Prop}(hI:Inv C K T){t ty:TypeId}{ts:Array TypeId}{x:AV}{v:Value}{vs:Array Value}{n:Int}(hv:aF K T x v)(h:lenV C K.H t x=some n)
 (ht:ts[0]?=some t)(hvs:vs[0]?=some v):(Builtin.len_ ts ty vs).run C.P K.w=.ok (.int .i64 n) K.w:=by
 unfold lenV at h;split at h
 .rename_i s hu;have hu':=bf hu (by simp);have:=hv.str;subst this;simp only[axH]at h;subst h;simp[Builtin.len_,ht,hvs,bg hu',goInt];rfl
 .rename_i len e hu;have hu':=bf hu (by simp);simp only[axH]at h;subst h;simp[Builtin.len_,ht,hvs,bg hu',goInt]
 .rename_i e c p tg hu;have hu':=bf hu (by simp);simp only[aF,aK,aU,RV]at hv;obtain⟨ad,cap,rfl,_⟩:=hv;simp only[axH]at h;subst h;simp[Builtin.len_,ht,hvs,bg hu',goInt]
 .rename_i e o off len g hu;have hu':=bf hu (by simp);split at h
  .rename_i ob hob;simp only[aF,aK,aU]at hv;obtain⟨h1,h2⟩:=cZ.1 hob;obtain⟨_,ad,cap,rfl,_⟩:=(hv.2.2 ob h1).2 h2;simp only[axH]at h;subst h;simp[Builtin.len_,ht,hvs,bg hu',goInt]
  .cases h
 .rename_i hu;have hu':=bf hu (by simp);have:v=.map none:=by simpa[aF,aK,aU,RV]using hv
  subst this;simp only[axH]at h;subst h;simp[Builtin.len_,ht,hvs,bg hu',goInt]
 .rename_i o g hu;have hu':=bf hu (by simp);split at h
  .rename_i ob hob;split at h
   .rename_i l hl;simp only[aF,aK,aU]at hv;obtain⟨h1,h2⟩:=cZ.1 hob;obtain⟨_,rfl⟩:=(hv.2.2 ob h1).2 h2;simp only[axH]at h;subst h;have hO:=hI.obj o ob h1;unfold gB at hO;rw[hl]at hO;obtain⟨es,clock,h3,h4,h5,_⟩:=hO;simp[Builtin.len_,ht,hvs,bg hu',goInt,getObj,Sem.run,h3,h4]
   .cases h
  .cases h
 .cases h
def abU{C:Ctx}{K:Kx}{T:Nat->Nat->Prop}(hI:Inv C K T){t ty:TypeId}{ts:Array TypeId}{x:AV}{v:Value}{vs:Array Value}{n:Int}(hv:aF K T x v)(h:Nl C K.H t x=some n)
 (ht:ts[0]?=some t)(hvs:vs[0]?=some v):(Builtin.cap_ ts ty vs).run C.P K.w=.ok (.int .i64 n) K.w:=by
 unfold Nl at h;split at h
 .rename_i e p tg hu;have hu':=bf hu (by simp);simp only[aF,aK,aU,RV]at hv;obtain⟨ad,cap,rfl,hs,_⟩:=hv;simp only[axH]at h;subst h;have:=(hs.2.1 rfl).2;simp[Builtin.cap_,ht,hvs,bg hu',goInt,this]
 .rename_i e p tg hu;have hu':=bf hu (by simp);simp only[aF,aK,aU,RV]at hv;obtain⟨ad,cap,rfl,hs,_⟩:=hv;simp only[axH]at h;subst h;have:=hs.2.2.2 rfl;simp[Builtin.cap_,ht,hvs,bg hu',goInt,this]
 .rename_i e o off len g hu;have hu':=bf hu (by simp);split at h
  .rename_i ob hob;split at h
   .rename_i c hc;simp only[aF,aK,aU]at hv;obtain⟨h1,h2⟩:=cZ.1 hob;obtain⟨hpm,ad,cap,rfl,h3,_⟩:=(hv.2.2 ob h1).2 h2;obtain⟨hsh,_⟩:=(hI.obj o ob h1).open hpm;have:=hsh.2.1 c hc;simp only[axH]at h;subst h;simp[Builtin.cap_,ht,hvs,bg hu',goInt];omega
   .cases h
  .cases h
 .cases h
def JG{C:Ctx}{K:Kx}{T:Nat->Nat->Prop}(hI:Inv C K T){x p:AV}{v:Value}(hv:aF K T x v)(h:uF K.H x=some p) :
 ∃ ad cap,v=.slice ad (ah p) cap/\ah p<=cap/\(∀ e,aS p=e->ah p≠0->∃ b off,ad=some ⟨b,off,none⟩/\∃ S:AV->Value->Prop,GP S p (fun j=>K.w.cell? ⟨b,off+j,none⟩)):=by
 unfold uF at h;split at h
 .rename_i c q t;simp only[axH]at h;subst h;simp only[aF,aK,aU,RV]at hv;obtain⟨ad,cap,rfl,hs,hr⟩:=hv;refine⟨ad,cap,rfl,hs.1,fun e _ hn=>?_⟩;have had:ad.isSome=true:=hs.2.2.1 (fun h0=>by have:=(hs.2.1 h0).2;have:=hs.1;omega);obtain⟨⟨b,off,sp⟩,rfl⟩:=ayn.1 had;obtain⟨h1,_,h2⟩:=hr _ rfl hn;simp only at h1 h2;subst h1;exact⟨b,off,rfl,_,jE.1 h2⟩
 .rename_i o off len g;split at h
  .rename_i ob hob;simp only[aF,aK,aU]at hv;obtain⟨h1,h2⟩:=cZ.1 hob;obtain⟨hpm,ad,cap,rfl,h3,h4,h5,_⟩:=(hv.2.2 ob h1).2 h2;obtain⟨hsh,_⟩:=(hI.obj o ob h1).open hpm;have hlen:=Bj h;refine⟨ad,cap,by rw[hlen],by rw[hlen];have:=hsh.1;omega,fun e _ hn=>?_⟩;have hcap:cap≠0:=by have:=hsh.1;omega
   have hpl:ah ob.p≠0:=by omega
   have hp:=yM hI hob hpm hpl;have:=h5 hcap;refine⟨_,_,this,?_⟩;have key:∀ {S:AV->Value->Prop},GP S ob.p (fun j=>K.w.cell? ⟨(K.μ o).blk,(K.μ o).base+j,none⟩)->GP S p (fun j=>K.w.cell? ⟨(K.μ o).blk,(K.μ o).base+off*aS ob.p+j,none⟩):=by intro S hS;have:=(GP.sub hS h).1;simp only[<- azC]at this;exact this
   unfold fZ at hp;split at hp
   .exact ⟨_,key hp⟩
   .exact ⟨_,key (jE.1 hp)⟩
  .cases h
 .cases h
def foldl_push:∀ (l:List UInt8) (s:ByteArray),((l.map fun b=>(b.toNat:Int)).foldl (fun r n=>r.push (UInt8.ofNat n.toNat)) s)=⟨⟨s.data.toList++l⟩⟩
 | [],s=>by simp
 | b::l,s=>by
  simp only[ax9,azQ];rw[foldl_push l];have:(s.push (UInt8.ofNat (b.toNat:Int).toNat)).data.toList=s.data.toList++[b]:=by simp[ByteArray.push]
  rw[this];simp
def VA{P:Program}{w:World}{l:List UInt8}{b off cap:Nat}(h:∀ (j:Nat) (x:UInt8),l[j]?=some x->w.cell? ⟨b,off+j,none⟩=some (.int .u8 x.toNat)) :
 (Conv.bytesToString (.slice (some ⟨b,off,none⟩) l.length cap)).run P w=.ok (.string ⟨⟨l⟩⟩) w:=by
 have hl:(loadCells ⟨b,off,none⟩ l.length).run P w=.ok ((l.map fun x=>(x.toNat:Int)).map (Value.int .u8)).toArray w:=by
  have:=run_loadCells_list (P:=P) (w:=w) ⟨b,off,none⟩ ((l.map fun x=>(x.toNat:Int)).map (Value.int .u8)) (by
   intro j v hv;simp only[axP,ax7]at hv;obtain⟨n,⟨x,hx,rfl⟩,rfl⟩:=hv;rw[add_lit];exact h j x hx)
  simpa using this
 rw[run_bytesToString w ⟨b,off,none⟩ l.length cap (l.map fun x=>(x.toNat:Int)) hl,foldl_push];simp
def ZG{C:Ctx}{K:Kx}{T:Nat->Nat->Prop}(hI:Inv C K T){s d:TypeId}{x y:AV}{v:Value}{H':Heap}(hv:aF K T x v)(h:wI C K.H s d x=some (y,H')) :
 ∃ u w',(convert s d v).run C.P K.w=.ok u w'/\H'=K.H/\Inv C ⟨K.μ,K.H,w'⟩ T/\Evo T K.H.length K ⟨K.μ,K.H,w'⟩/\aF ⟨K.μ,K.H,w'⟩ T y u:=by
 unfold wI at h;split at h
 .cases h
 rename_i hok;obtain⟨ds,hds,_⟩:=sJ (by simpa using hok);have same:∀ {u:Value},(convert s d v).run C.P K.w=.ok u K.w->H'=K.H->aF K T y u ->
  ∃ u w',(convert s d v).run C.P K.w=.ok u w'/\H'=K.H/\Inv C ⟨K.μ,K.H,w'⟩ T/\Evo T K.H.length K ⟨K.μ,K.H,w'⟩/\aF ⟨K.μ,K.H,w'⟩ T y u :=
  fun h1 h2 h3=>⟨_,_,h1,h2,hI,Evo.refl T K (axO _),h3⟩
 split at h
 .rename_i k k' n hu;have hu':=bf hu (by simp);simp only[axH,axJ]at h;obtain⟨rfl,rfl⟩:=h;have:=hv.int;subst this;refine same (u:=.int k (k.wrap n)) ?_ rfl (by simp[aF,aK,aU,RV]);simp[convert,bg hds,bg hu',Conv.intToInt]
 .rename_i b hu;have hu':=bf hu (by simp);simp only[axH,axJ]at h;obtain⟨rfl,rfl⟩:=h;have:=hv.str;subst this;refine same (u:=.string ⟨⟨b⟩⟩) ?_ rfl (by simp[aF,aK,aU,RV]);simp only[convert,Sem.run_bind,bg hds,bg hu',Result.andThen_ok];cases ds<;>rfl
 .rename_i x _ _ hu _;have hu':=bf hu (by simp);split at h
  .rename_i e hus;have asr:=bf hus (by simp);split at h
   .rename_i hu8;have he:=yO hu8;have go:∀ {l:List UInt8},uF K.H x=some (.pb l)\/(uF K.H x=some .pn/\l=[])->y=.str l->H'=K.H->
     ∃ u w',(convert s d v).run C.P K.w=.ok u w'/\H'=K.H/\Inv C ⟨K.μ,K.H,w'⟩ T/\Evo T K.H.length K ⟨K.μ,K.H,w'⟩/\aF ⟨K.μ,K.H,w'⟩ T y u:=by
     rintro l hl rfl rfl;refine same (u:=.string ⟨⟨l⟩⟩) ?_ rfl (by simp[aF,aK,aU,RV]);have key:∃ ad cap,v=.slice ad l.length cap/\(l.length≠0->∃ b off,ad=some ⟨b,off,none⟩/\∀ (j:Nat) (x:UInt8),l[j]?=some x->K.w.cell? ⟨b,off+j,none⟩=some (.int .u8 x.toNat)):=by
      rcases hl with hl|⟨hl,rfl⟩
      .obtain ⟨ad,cap,h1,_,h2⟩:=JG hI hv hl;refine⟨ad,cap,h1,fun hn=>?_⟩;obtain⟨b,off,h3,S,h4⟩:=h2 1 rfl hn;exact⟨b,off,h3,h4⟩
      .obtain ⟨ad,cap,h1,_,h2⟩:=JG hI hv hl;exact⟨ad,cap,h1,fun hn=>absurd rfl hn⟩
     obtain⟨ad,cap,rfl,h2⟩:=key;rw[run_convert_bytes_string K.w s d e ad l.length cap asr he hu'];by_cases h0:l.length=0
     .have:l=[]:=ayk h0;subst this;cases ad with
      | none=>rfl
      | some ad=>
       simp[Conv.bytesToString,loadCells,loadCellsFrom];rfl
     .obtain ⟨b,off,rfl,h3⟩:=h2 h0;exact VA h3
    split at h
    .rename_i l hl;simp only[axH,axJ]at h;exact go (.inl hl) h.1.symm h.2.symm
    .rename_i hl;simp only[axH,axJ]at h;exact go (.inr ⟨hl,rfl⟩) h.1.symm h.2.symm
    .cases h
   .cases h
  .cases h
 .rename_i e b hu;have hu':=bf hu (by simp);split at h
  .rename_i hu8;have he:=yO hu8;simp only[axH,axJ]at h;obtain⟨rfl,rfl⟩:=h;have:=hv.str;subst this;let cap:=(Question.appendCap b.length 0 e).cut (K.w.tape K.w.drawn (.appendCap b.length 0 e));let arr:Array Value:=(b.map fun x=>Value.int .u8 x.toNat).toArray++Array.replicate (cap-b.length) (.int .u8 0);let w1:World:=(K.w.drew.alloc (.cells arr e)).freeze ⟨K.w.heap.size,arr.size,none⟩ 1;have hcap:b.length<=cap:=by simp[cap,Question.cut]
   have hrun:(convert s d (.string ⟨⟨b⟩⟩)).run C.P K.w=.ok (.slice (some ⟨K.w.heap.size,0,none⟩) b.length cap) w1:=by
    have hsz:(⟨⟨b⟩⟩:ByteArray).size=b.length:=rfl;have hq:∀ n,(Question.appendCap n 0 e).forced=false:=fun n=>rfl;have harr:Array.map (fun b=>Value.int .u8 b.toNat) (⟨⟨b⟩⟩:ByteArray).data++Array.replicate (cap-b.length) (.int .u8 0)=arr:=by simp[arr]
    have hshape:(K.w.drew.alloc (.cells arr e)).shape? K.w.heap.size=some (e,arr.size):=by unfold World.shape?;rw[show K.w.heap.size=K.w.drew.heap.size from rfl,heap_alloc_new]
    have hc:(Conv.stringToBytes e ⟨⟨b⟩⟩).run C.P K.w=.ok (.slice (some ⟨K.w.heap.size,0,none⟩) b.length cap) w1:=by simp only[Conv.stringToBytes,Sem.run_bind,run_choose,hsz,hq,axZ,if_false,Result.andThen_ok,newRow,run_newObj,Sem.run_pure,markStringish,run_shape];rw[show(Question.appendCap b.length 0 e).cut (K.w.tape K.w.drawn (.appendCap b.length 0 e))=cap from rfl,harr];have e1:({ heap:=K.w.heap.push (.cells arr e),tape:=K.w.tape,drawn:=K.w.drawn+1,os:=K.w.os,output:=K.w.output }:World)=K.w.drew.alloc (.cells arr e):=rfl;rw[e1,hshape];simp only[Sem.run_bind,run_freeze,Result.andThen_ok,Sem.run_pure];rfl
    simp only[convert,Sem.run_bind,bg hds,bg hu',Result.andThen_ok];cases ds<;>simp only[Sem.run_bind,bg he,Result.andThen_ok,hc]
   have hheap:∀ k,k≠K.w.heap.size->w1.heap[k]?=(K.w.drew.alloc (.cells arr e)).heap[k]?:=by intro k hk;simp only[w1,World.freeze];rw[if_neg (by decide)];simp only[ayP];rw[if_neg (ax6 hk)]
   have hsize:w1.heap.size=K.w.heap.size+1:=by simp only[w1,World.freeze];rw[if_neg (by decide)];simp
   have hcell:∀ j,w1.cell? ⟨K.w.heap.size,j,none⟩=arr[j]?:=by intro j;simp only[w1,World.freeze];rw[if_neg (by decide)];simp only[World.cell?,ayP,if_true];rw[show K.w.heap.size=K.w.drew.heap.size from rfl,heap_alloc_new];simp
   have hos:w1.os=K.w.os/\w1.tape=K.w.tape/\w1.output=K.w.output:=by simp only[w1,World.freeze];rw[if_neg (by decide)];exact⟨rfl,rfl,rfl⟩
   obtain⟨hI',hE⟩:=Inv.world (w':=w1) hI (by omega) hos.1 hos.2.1 hos.2.2 (fun k hk=>.inl (by rw[hheap k (by omega)];exact heap_alloc_old K.w.drew _ hk));refine⟨_,w1,hrun,rfl,hI',hE,?_⟩;simp only[aF,aK,aU,RV,ah];refine⟨_,cap,rfl,⟨hcap,by simp,by simp,by simp⟩,fun a ha hn=>?_⟩;simp only[axH]at ha;subst ha;refine⟨rfl,⟨hI.new _ (axO _),fun ho=>?_,by simp only[hsize];omega⟩,?_⟩
   .have:=(hI.own _ (hE.own _ ?_ ho)).1
    .simp at this
    .obtain ⟨o,ob,h1,h2,h3⟩:=ho;exact absurd (hI.own _ ⟨o,ob,h1,h2,h3⟩).1 (by simp)
   .simp only[RP];intro j x hx;rw[ayg,hcell];have hj:=(axK.1 hx).1;simp only[arr];rw[Array.getElem?_append_left (by simpa using hj)];simp[hx]
  .cases h
 .rename_i e p hu;have hu':=bf hu (by simp);split at h
  .rename_i hc;obtain⟨rfl,hu8,hn⟩:=hc;have he:=yO hu8;simp only[axH,axJ]at h;obtain⟨rfl,rfl⟩:=h;have hv0:=hv;simp only[aF,aK,aU,RV]at hv;obtain⟨ad,cap,rfl,hs,hr⟩:=hv;obtain⟨⟨b,off,sp⟩,rfl⟩:=ayn.1 (hs.2.2.1 (by decide));obtain⟨h1,h2,h3⟩:=hr _ rfl hn;simp only at h1 h2 h3;subst h1;have hmark:∃ w1,(markStringish ⟨b,off,none⟩).run C.P K.w=.ok () w1/\w1.heap.size=K.w.heap.size/\w1.os=K.w.os/\w1.tape=K.w.tape/\w1.output=K.w.output /\
    (∀ k,k≠b->w1.heap[k]?=K.w.heap[k]?)/\∀ j,w1.cell? ⟨b,j,none⟩=K.w.cell? ⟨b,j,none⟩:=by
    unfold markStringish;simp only[Sem.run_bind,run_shape,Result.andThen_ok];cases hsh:K.w.shape? b with
    | none=>exact⟨K.w,by simp,rfl,rfl,rfl,rfl,fun _ _=>rfl,fun _=>rfl⟩
    | some x=>
     obtain⟨ty,n⟩:=x;refine⟨K.w.freeze ⟨b,n,none⟩ 1,by simp,?_⟩;simp only[World.freeze];rw[if_neg (by decide)];refine⟨by simp,rfl,rfl,rfl,fun k hk=>?_,fun j=>?_⟩
     .simp only[ayP];rw[if_neg (ax6 hk)]
     .simp only[World.cell?,ayP,if_true];cases K.w.heap[b]? with
      | none=>rfl
      | some o=>cases o<;>rfl
   obtain⟨w1,hm1,hm2,hm3,hm4,hm5,hm6,hm7⟩:=hmark;obtain⟨hI',hE⟩:=Inv.world (w':=w1) hI (by omega) hm3 hm4 hm5 (fun k hk=>by
    by_cases e':k=b
    .subst e';exact .inr ⟨h2.2.1,h2.1,hm7⟩
    .exact .inl (hm6 k e'))
   refine⟨_,w1,?_,rfl,hI',hE,aF.evo hE (axO _) hv0⟩;simp[convert,bg hu',bg he,hm1]
  .cases h
 .cases h
def lC(w:World)(o:Go.Obj):(w.alloc o).heap[w.heap.size]?=some o:=Go.heap_alloc_new w o
def alloc_old(w:World)(o:Go.Obj){b:Nat}(h:b<w.heap.size):(w.alloc o).heap[b]?=w.heap[b]?:=Go.heap_alloc_old w o h
def iZ.pos{K:Kx}{T:Nat->Nat->Prop}{p:AV}{r:Nat->Option Value}(h:iZ K T p r):0<aS p/\ig p=false:=by
 cases p<;>simp_all [iZ,GP,aS,ig]
def JH{C:Ctx}{K:Kx}{T:Nat->Nat->Prop}(hI:Inv C K T){p:AV}{cs:Array Value}(hp:iZ K T p (fun j=>cs[j]?))(hs:cs.size=aV p)(E:TypeId) :
 ∃ μ',Inv C ⟨μ',(jv K.H p).2,K.w.alloc (.cells cs E)⟩ T/\Evo T K.H.length K ⟨μ',(jv K.H p).2,K.w.alloc (.cells cs E)⟩ /\
  aF ⟨μ',(jv K.H p).2,K.w.alloc (.cells cs E)⟩ T (jv K.H p).1 (.pointer (some ⟨K.w.heap.size,0,none⟩)):=by
 obtain⟨hpos,hpm⟩:=hp.pos;obtain⟨μ',h1,h2,h3⟩:=Inv.push (w':=K.w.alloc (.cells cs E)) hI ⟨p,0,some (ah p),1,false,tZ p,0⟩ ⟨K.w.heap.size,0,ah p⟩ (by simp) rfl rfl rfl (fun b hb=>alloc_old _ _ hb)
  (fun _=>⟨axO _,by simp⟩) (by
   intro μ' hold hm hE;have hsh:vW (μ' K.H.length) ⟨p,0,some (ah p),1,false,tZ p,0⟩:=by rw[hm];exact⟨axO _,fun c hc=>by simpa using hc.symm,fun _=>rfl,fun h=>by simp at h⟩
   have hcl:Bd ⟨μ',K.H++[some ⟨p,0,some (ah p),1,false,tZ p,0⟩],K.w.alloc (.cells cs E)⟩ T (μ' K.H.length) ⟨p,0,some (ah p),1,false,tZ p,0⟩:=by
    rw[hm];intro hc;refine⟨cs,E,lC _ _,by simp[hs,aV],hpos,?_⟩;unfold fZ;simp only[ayg];split
    .exact iZ.imp (fun _ _=>aU.evo hE (axO _)) hp
    .rename_i hid;cases p<;>simp_all [tZ,iZ,GP,RP]
   unfold gB;split
   .rename_i heq;simp only at heq;rw[heq]at hpm;simp[ig]at hpm
   .exact ⟨hsh,hcl⟩)
 refine⟨μ',h2,h3,?_⟩;simp only[jv,aF,aK,aU];refine⟨by simp,rfl,fun ob hob=>?_⟩;have:ob=⟨p,0,some (ah p),1,false,tZ p,0⟩:=by simpa using hob.symm
 subst this;refine⟨axO _,fun _=>⟨hpm,?_⟩⟩;rw[h1];simp
def OE{K:Kx}{T:Nat->Nat->Prop}{x p:AV}{v:Value}(hv:aF K T x v)(h:tY x=some p):iZ K T p (fun j=>v.cells[j]?)/\v.cells.size=aV p:=by
 unfold tY at h;split at h
 .simp only[axH]at h;subst h;simp only[aF,aK]at hv;obtain⟨cs,rfl,h1,h2⟩:=hv;exact⟨h2,h1⟩
 .split at h
  .rename_i hs;simp only[axH]at h;subst h;have h1:=aU.YU hs hv;have h2:=aU.cell hs h1;have h3:v.cells=#[v]:=by cases v<;>first|rfl|(simp[Value.oneCell']at h2)
   rw[h3];refine⟨?_,rfl⟩;simp only[iZ,GP];intro j a ha;cases j with
   | zero=>simp at ha;subst ha;exact⟨v,rfl,h2,h1⟩
   | succ j=>simp at ha
  .cases h
def Hr{P:Program}{w:World}(t:TypeId)(v:Value):(newVar t v).run P w=.ok ⟨w.heap.size,0,none⟩ (w.alloc (.cells v.cells t)):=by
 simp[newVar,newRow]
def yT{C:Ctx}{K:Kx}{T:Nat->Nat->Prop}{t:TypeId}{p:AV}(h:bD C t=p)(hp:p≠.top):∃ z,(zeroValue t).run C.P K.w=.ok z K.w/\aF K T p z/\(∃ i,C.P.info? t=some i/\i.zero=some z):=by
 unfold bD at h;split at h
 .rename_i z hz;subst h;cases hi:C.P.info? t with
  | none=>rw[hi]at hz;simp at hz
  | some i=>
   rw[hi]at hz;simp at hz;exact⟨z,by simp[zeroValue,typeInfo,hi,hz],TB t z,i,rfl,hz⟩
 .exact absurd h.symm hp
def Q9{C:Ctx}{K:Kx}{T:Nat->Nat->Prop}(hI:Inv C K T){t:TypeId}{p:AV}(h:tY (bD C t)=some p) :
 ∃ u w' μ',(Instr.alloc t true (.tuple #[])).run C.P K.w=.ok u w'/\Inv C ⟨μ',(jv K.H p).2,w'⟩ T/\Evo T K.H.length K ⟨μ',(jv K.H p).2,w'⟩/\aF ⟨μ',(jv K.H p).2,w'⟩ T (jv K.H p).1 u:=by
 have hne:bD C t≠.top:=by intro h0;rw[h0]at h;simp[tY,scalar]at h
 obtain⟨z,h1,h2,_⟩:=yT (K:=K) (T:=T) rfl hne;obtain⟨h3,h4⟩:=OE h2 h;obtain⟨μ',h5,h6,h7⟩:=JH hI h3 h4 t;exact⟨_,_,μ',by simp[Instr.alloc,h1,Hr],h5,h6,h7⟩
def ZH{C:Ctx}{K:Kx}{T:Nat->Nat->Prop}(hI:Inv C K T){t:TypeId}{x p:AV}{v:Value}(hv:aF K T x v)(h:tY x=some p) :
 ∃ u w' μ',(Instr.box t v).run C.P K.w=.ok u w'/\Inv C ⟨μ',(jv K.H p).2,w'⟩ T/\Evo T K.H.length K ⟨μ',(jv K.H p).2,w'⟩/\aF ⟨μ',(jv K.H p).2,w'⟩ T (jv K.H p).1 u:=by
 obtain⟨h3,h4⟩:=OE hv h;obtain⟨μ',h5,h6,h7⟩:=JH hI h3 h4 t;exact⟨_,_,μ',by simp[Instr.box,Hr],h5,h6,h7⟩
def pushRow{C:Ctx}{K:Kx}{T:Nat->Nat->Prop}(hI:Inv C K T)(ob:Obj){w':World}{cs:Array Value}{E:TypeId}{cap:Nat}(hrow:ob.row=true)(hg:ob.g=0)
 (hz:ob.z=0->ah ob.p≠0)(hpm:ig ob.p=false)
 (hw:w'.heap.size=K.w.heap.size+1)(hos:w'.os=K.w.os)(htape:w'.tape=K.w.tape)(hout:w'.output=K.w.output)
 (hnew:w'.heap[K.w.heap.size]?=some (.cells cs E (0,0)))(hold:∀ b,b<K.w.heap.size->w'.heap[b]?=K.w.heap[b]?)
 (hcap:ah ob.p<=cap)(hsz:cap*aS ob.p<=cs.size)(hpos:0<aS ob.p)(hoc:∀ c,ob.cap=some c->c=cap)(hpay:fZ K T ob (fun j=>cs[j]?)) :
 ∃ μ',Inv C ⟨μ',K.H++[some ob],w'⟩ T/\Evo T K.H.length K ⟨μ',K.H++[some ob],w'⟩ /\
  aF ⟨μ',K.H++[some ob],w'⟩ T (.sl K.H.length 0 (ah ob.p) 0) (.slice (some ⟨K.w.heap.size,0,none⟩) (ah ob.p) cap):=by
 obtain⟨μ',h1,h2,h3⟩:=Inv.push (w':=w') hI ob ⟨K.w.heap.size,0,cap⟩ (by omega) hos htape hout hold
  (fun _=>⟨axO _,by simp only[hw];omega⟩) (by
   intro μ' hold hm hE;unfold gB;split
   .rename_i heq;rw[heq]at hpm;simp[ig]at hpm
   .refine ⟨?_,?_⟩
    .simp only[hm];exact⟨hcap,hoc,fun h=>by simp[hrow]at h,fun h=>.inr (hz h)⟩
    .simp only[hm];intro hc;refine⟨cs,E,hnew,by simpa using hsz,hpos,?_⟩;simp only[ayg];exact fZ.evo hE (axO _) hpay)
 refine⟨μ',h2,h3,?_⟩;simp only[aF,aK,aU];refine⟨by simp,rfl,fun ob' hob=>?_⟩;have:ob'=ob:=by simpa using hob.symm
 subst this;refine⟨by omega,fun _=>⟨hpm,_,_,rfl,by rw[h1];simp,by omega,fun _=>by rw[h1];simp,fun h hz0=>?_,fun _=>rfl⟩⟩;rw[h1]at h;simp only at h;have:=hz hz0;omega
def pushNone{C:Ctx}{K:Kx}{T:Nat->Nat->Prop}(hI:Inv C K T)(ob:Obj)(hrow:ob.row=true)(hg:ob.g=0)(hpm:ig ob.p=false)(hl:ah ob.p=0)(hoc:ob.cap=none)
 {ad:Option Addr}(h0:ob.z=0->ad=none)(h1:ob.z≠0->ad.isSome=true) :
 ∃ μ',Inv C ⟨μ',K.H++[some ob],K.w⟩ T/\Evo T K.H.length K ⟨μ',K.H++[some ob],K.w⟩ /\
  aF ⟨μ',K.H++[some ob],K.w⟩ T (.sl K.H.length 0 0 0) (.slice ad 0 0):=by
 obtain⟨μ',h3,h4,h5⟩:=Inv.push (w':=K.w) hI ob ⟨0,0,0⟩ (axO _) rfl rfl rfl (fun _ _=>rfl)
  (fun h=>by rcases h with h|h<;>simp_all) (by
   intro μ' hold hm hE;unfold gB;split
   .rename_i heq;rw[heq]at hpm;simp[ig]at hpm
   .simp only[hm];exact⟨⟨by omega,fun c hc=>by simp[hoc]at hc,fun h=>by simp[hrow]at h,fun _=>.inl rfl⟩,fun h=>absurd rfl h⟩)
 refine⟨μ',h4,h5,?_⟩;simp only[aF,aK,aU];refine⟨by simp,rfl,fun ob' hob=>?_⟩;have:ob'=ob:=by simpa using hob.symm
 subst this;exact⟨by omega,fun _=>⟨hpm,ad,0,rfl,by rw[h3],by omega,fun h=>absurd rfl h,fun _ hz=>h0 hz,fun h=>by
  rcases h with h|h
  .rw [h3]at h;exact absurd rfl h
  .exact h1 h⟩⟩
def Rf{C:Ctx}{K:Kx}{T:Nat->Nat->Prop}(hI:Inv C K T){t:TypeId}{x:AV}{v:Value}(hv:aF K T x v) :
 ∃ μ',Inv C ⟨μ',(ak C K.H t x).2,K.w⟩ T/\Evo T K.H.length K ⟨μ',(ak C K.H t x).2,K.w⟩/\aF ⟨μ',(ak C K.H t x).2,K.w⟩ T (ak C K.H t x).1 v:=by
 unfold ak;split
 .rename_i e _;simp only[aF,aK,aU,RV,ah]at hv;obtain⟨ad,cap,rfl,hs,_⟩:=hv;obtain⟨rfl,rfl⟩:=hs.2.1 rfl;have h1:ig (dh C e)=false/\ah (dh C e)=0:=by unfold dh;split<;>exact⟨rfl,rfl⟩
  exact pushNone hI (rowOf (dh C e) none 0) rfl rfl h1.1 h1.2 rfl (fun _=>rfl) (fun h=>absurd rfl h)
 .exact ⟨K.μ,hI,Evo.refl T K (axO _),hv⟩
def qA{H:Heap}{o j:Nat}{x:Option Obj}{ob:Obj}(h:(upd H o x)[j]?=some (some ob)):(j=o/\x=some ob)\/(j≠o/\H[j]?=some (some ob)):=by
 unfold upd at h;rcases qp h with⟨e,h1,_⟩|⟨e,h1⟩
 .exact .inl ⟨e.symm,h1.symm⟩
 .exact .inr ⟨ax6 e,h1⟩
def yU(H:Heap)(o:Nat)(x:Option Obj):(upd H o x).length=H.length:=by simp[upd]
def Inv.drop{C:Ctx}{K:Kx}{T:Nat->Nat->Prop}(hI:Inv C K T)(o:Nat):Inv C ⟨K.μ,upd K.H o none,K.w⟩ T/\Evo T K.H.length K ⟨K.μ,upd K.H o none,K.w⟩:=by
 have hn:∀ ob,(upd K.H o none)[o]?≠some (some ob):=by
  intro ob h;rcases qA h with⟨_,h⟩|⟨h,_⟩
  .cases h
  .exact h rfl
 refine Inv.turn hI o (by simp[yU]) (fun j hj ob h=>?_) (axO _) rfl rfl rfl (fun _ _ _=>.inl rfl) (fun ob h=>absurd h (hn ob)) (fun _ ob h=>absurd h (hn ob)) (fun _ ob h=>absurd h (hn ob));rcases qA h with⟨e,_⟩|⟨_,h⟩
 .exact absurd e hj
 .exact ⟨h,rfl⟩
def abV{H:Heap}{o g:Nat}{ob:Obj}(h:live H o g=some ob):o<H.length:=(axK.1 (cZ.1 h).1).1
def EK.ro{C:Ctx}{K:Kx}{T:Nat->Nat->Prop}(hI:Inv C K T){o off len g:Nat}{ob:Obj}{v:Value}{p:AV}(hob:live K.H o g=some ob)(jQ:¬ ob.ids=true)
 (hs:EK (K.μ o) ob off len v)(hp:gq ob.p off len=some p) :
 ∃ ad cap,v=.slice ad (ah p) cap/\AX (if ob.z=0/\ah ob.p=0 then 0 else 2) (ah p) ad cap /\
  ∀ a,ad=some a->ah p≠0->a.spot=none/\a.block=(K.μ o).blk/\Real ob (K.μ o)/\RP K.w (NT K T ob.tg) p (fun j=>K.w.cell? ⟨a.block,a.off+j,none⟩):=by
 obtain⟨hpm,ad,cap,rfl,h1,h2,h3,h4,h5⟩:=hs;obtain⟨h6,h7⟩:=cZ.1 hob;obtain⟨hsh,hcl⟩:=(hI.obj o ob h6).open hpm;have hlen:=Bj hp;refine⟨ad,cap,by rw[hlen],⟨by rw[hlen];have:=hsh.1;omega,fun hc=>?_,fun hc=>?_,fun hc=>?_⟩,fun a ha hn=>?_⟩
 .have hz:ob.z=0/\ah ob.p=0:=by
   split at hc
   .assumption
   .cases hc
  have hC:(K.μ o).cap=0:=by
   rcases hsh.2.2.2 hz.1 with h|h
   .exact h
   .exact absurd hz.2 h
  exact⟨h4 hC hz.1,by omega⟩
 .have hz:¬ (ob.z=0/\ah ob.p=0):=by intro h;rw[if_pos h]at hc;exact hc rfl
  by_cases hz0:ob.z=0
  .have:ah ob.p≠0:=fun h=>hz ⟨hz0,h⟩;exact h5 (.inl (by have:=hsh.1;omega))
  .exact h5 (.inr hz0)
 .split at hc<;>cases hc
 .have hcap:cap≠0:=by have:=hsh.1;omega
  have:=h3 hcap;rw[this]at ha;simp only[axH]at ha;subst ha;have hpl:ah ob.p≠0:=by omega
  have hpay:=yM hI hob hpm hpl;unfold fZ at hpay;rw[if_neg jQ]at hpay;refine⟨rfl,rfl,.inr (by omega),jE.2 ?_⟩;have:=(GP.sub (jE.1 hpay) hp).1;simp only[<- azC]at this;exact this
def Ht{C:Ctx}{K:Kx}{T:Nat->Nat->Prop}(hI:Inv C K T){x y:AV}{v:Value}{H':Heap}(hv:aU K T x v)(h:nX K.H x=some (y,H')) :
 Inv C ⟨K.μ,H',K.w⟩ T/\Evo T K.H.length K ⟨K.μ,H',K.w⟩/\H'.length=K.H.length/\aU ⟨K.μ,H',K.w⟩ T y v:=by
 unfold nX at h;split at h
 .rename_i o off len g;split at h
  .rename_i ob hob;split at h
   .cases h
   .rename_i jQ;split at h
    .rename_i p hp;simp only[axH,axJ]at h;obtain⟨rfl,rfl⟩:=h;obtain⟨hI',hE⟩:=Inv.drop hI o;refine⟨hI',hE,yU _ _ _,?_⟩;simp only[aU]at hv;obtain⟨h1,h2⟩:=cZ.1 hob;obtain⟨ad,cap,rfl,h3,h4⟩:=EK.ro hI hob jQ ((hv.2.2 ob h1).2 h2) hp;simp only[aU,RV];refine⟨ad,cap,rfl,h3,fun a ha hn=>?_⟩;obtain⟨h5,h6,h7,h8⟩:=h4 a ha hn;have hO:Own K a.block:=⟨o,ob,h1,h7,h6.symm⟩;obtain⟨h9,h10⟩:=hI.own _ hO;refine⟨h5,⟨hI.mono _ _ h10,?_,h9⟩,?_⟩
     .rintro ⟨j,ob',hj,hr,hb⟩;rcases qA hj with⟨_,e⟩|⟨hne,hj⟩
      .cases e
      .exact hne (hI.inj j o ob' ob hj h1 hr h7 (hb.trans h6))
     .exact jM (fun b hb=>NT.evo hE hb) _ _ _ (fun _ _ h=>h) h8
    .cases h
  .cases h
 .simp only[axH,axJ]at h;obtain⟨rfl,rfl⟩:=h;exact⟨hI,Evo.refl T K (axO _),rfl,hv⟩
def IE{H H':Heap}{x y:AV}(h:nX H x=some (y,H')):(∃ o off len g c p t,x=.sl o off len g/\y=.ro c p t)\/(y=x/\H'=H):=by
 unfold nX at h;split at h
 .split at h
  .split at h
   .cases h
   .split at h
    .simp only[axH,axJ]at h;obtain⟨rfl,_⟩:=h;exact .inl ⟨_,_,_,_,_,_,_,rfl,rfl⟩
    .cases h
  .cases h
 .simp only[axH,axJ]at h;exact .inr ⟨h.1.symm,h.2.symm⟩
def Hu{C:Ctx}{T:Nat->Nat->Prop}:∀ {l l':List AV} {K:Kx} {H':Heap} {r:Nat->Value},Inv C K T->(∀ (j:Nat) (a:AV),l[j]?=some a->aU K T a (r j))->rF K.H l=some (l',H') ->
 Inv C ⟨K.μ,H',K.w⟩ T/\Evo T K.H.length K ⟨K.μ,H',K.w⟩/\H'.length=K.H.length/\l'.length=l.length/\∀ (j:Nat) (a:AV),l'[j]?=some a->aU ⟨K.μ,H',K.w⟩ T a (r j)
 | [],l',K,H',r,hI,hr,h=>by
  simp only[rF,axH,axJ]at h;obtain⟨rfl,rfl⟩:=h;exact⟨hI,Evo.refl T K (axO _),rfl,rfl,by simp⟩
 | a::t,l',K,H',r,hI,hr,h=>by
  simp only[rF]at h;split at h
  .rename_i a' H1 h1;obtain⟨i1,e1,n1,s1⟩:=Ht hI (hr 0 a rfl) h1;split at h
   .rename_i t' H2 h2;simp only[axH,axJ]at h;obtain⟨rfl,rfl⟩:=h;have:=Hu (K:=⟨K.μ,H1,K.w⟩) (r:=fun j=>r (j+1)) i1 (fun j b hb=>aU.evo e1 (axO _) (hr (j+1) b (by simpa using hb))) h2;obtain⟨i2,e2,n2,m2,s2⟩:=this;refine⟨i2,Evo.trans e1 e2 (by show K.H.length<=H1.length;omega),n2.trans n1,by simp[m2],fun j b hb=>?_⟩;cases j with
    | zero=>simp at hb;subst hb;exact aU.evo e2 (axO _) s1
    | succ j=>exact s2 j b (by simpa using hb)
   .cases h
  .cases h
def Hw{C:Ctx}{K:Kx}{T:Nat->Nat->Prop}(hI:Inv C K T){x y:AV}{v:Value}{H':Heap}(hv:aK K T x v)(h:rE K.H x=some (y,H')) :
 Inv C ⟨K.μ,H',K.w⟩ T/\Evo T K.H.length K ⟨K.μ,H',K.w⟩/\H'.length=K.H.length/\aK ⟨K.μ,H',K.w⟩ T y v:=by
 unfold rE at h;split at h
 .rename_i l;split at h
  .rename_i l' H1 h1;simp only[axH,axJ]at h;obtain⟨rfl,rfl⟩:=h;simp only[aK]at hv ⊢;obtain⟨cs,rfl,h2,h3⟩:=hv;simp only[iZ,GP]at h3;obtain⟨i1,e1,n1,m1,s1⟩:=Hu (r:=fun j=>cs.getD j undef) hI (fun j a ha=>by
    obtain⟨v,h4,_,h5⟩:=h3 j a ha;simp only[ayp,h4];exact h5) h1
   refine⟨i1,e1,n1,cs,rfl,by simpa[aV,ah,aS,m1]using h2,?_⟩;simp only[iZ,GP];intro j a ha;have hj:=(axK.1 ha).1;have hj':j<l.length:=by omega
   obtain⟨v,h4,h5,_⟩:=h3 j l[j] (axI hj');have:=s1 j a ha;simp only[ayp,h4]at this;exact⟨v,h4,h5,this⟩
  .cases h
 .rcases IE h with⟨o,off,len,g,c,p,t,rfl,rfl⟩|⟨rfl,rfl⟩
  .simp only[aK]at hv ⊢;exact Ht hI hv h
  .exact ⟨hI,Evo.refl T K (axO _),rfl,hv⟩
def Ac{l c:List AV}{i j:Nat}(h:i+c.length<=l.length):(splice l i c)[j]?=if i<=j/\j<i+c.length then c[j-i]? else l[j]?:=by
 unfold splice;have h1:(l.take i).length=i:=by simp;omega
 by_cases hj:j<i
 .rw [if_neg (by omega),ayq,axL (by omega),ayD,if_pos hj]
 .rw [ayq,axS (by omega),h1];by_cases hj2:j<i+c.length
  .rw [if_pos (by omega),axL (by omega)]
  .rw [if_neg (by omega),axS (by omega),ayT];congr 1;omega
def Ad{l c:List AV}{i:Nat}(h:i+c.length<=l.length):(splice l i c).length=l.length:=by
 unfold splice;simp;omega
section
variable {S:AV->Value->Prop}
def OG(hS:∀ k n,S (.int k n) (.int k n)){q:AV}{c:List AV}{r:Nat->Option Value}(h:GP S q r)(hc:jD q=some c) :
 c.length=aV q/\∀ (j:Nat) (a:AV),c[j]?=some a->∃ v,r j=some v/\v.oneCell'=true/\S a v:=by
 cases q<;>simp only[jD,axH,reduceCtorEq]at hc<;>subst hc<;>simp only[GP]at h
 case pb l=>
  refine⟨by simp[aV,ah,aS],fun j a ha=>?_⟩;simp only[axP,ax7]at ha;obtain⟨b,hb,rfl⟩:=ha;exact⟨_,h j b hb,rfl,hS _ _⟩
 case pi k l=>
  refine⟨by simp[aV,ah,aS],fun j a ha=>?_⟩;simp only[axP,ax7]at ha;obtain⟨b,hb,rfl⟩:=ha;exact⟨_,h j b hb,rfl,hS _ _⟩
 case pc l=>exact⟨by simp[aV,ah,aS],h⟩
def over(r:Nat->Option Value)(k:Nat)(vs:List Value):Nat->Option Value:=fun j=>if k<=j/\j<k+vs.length then vs[j-k]? else r j
def VB(hS:∀ k n,S (.int k n) (.int k n)){p q p':AV}{i f:Nat}{r:Nat->Option Value}{vs:List Value}(hp:GP S p r)(hq:GP S q (fun j=>vs[j]?))(hl:vs.length=aV q)
 (h:MV p i f q=some p') :
 GP S p' (over r (i*aS p+f) vs)/\ah p'=ah p/\aS p'=aS p/\i*aS p+f+vs.length<=ah p*aS p:=by
 have whole:∀ {q:AV},GP S q (fun j=>vs[j]?)->vs.length=aV q->i=0->f=0->ah q=ah p->aS q=aS p ->
  GP S q (over r (i*aS p+f) vs)/\ah q=ah p/\aS q=aS p/\i*aS p+f+vs.length<=ah p*aS p:=by
  rintro q hq hl rfl rfl h1 h2;refine⟨GP.within hq fun j u hj hu=>?_,h1,h2,by rw[hl,aV,h1,h2];omega⟩;have:=(axK.1 hu).1;simp only[over];rw[if_pos (by omega)];simpa using hu
 unfold MV at h;split at h
 .split at h
  .rename_i hc;simp only[axH]at h;subst h;exact whole hq hl hc.1 hc.2.1 (by simp[ah,hc.2.2]) rfl
  .cases h
 .split at h
  .rename_i hc;simp only[axH]at h;subst h;exact whole hq hl hc.2.1 hc.2.2.1 (by simp[ah,hc.2.2.2]) rfl
  .cases h
 .split at h
  .rename_i hc;simp only[axH]at h;subst h;exact whole hq hl hc.2.1 hc.2.2.1 (by simp[ah,hc.2.2.2]) (by simp[aS,hc.1])
  .cases h
 .rename_i e l _;split at h
  .rename_i c cs hc hcs;split at h
   .rename_i hle;simp only[axH]at h;subst h;obtain⟨hcl,hcr⟩:=OG hS hq hc;simp only[GP,ah,aS]at hp ⊢;have hi:=(axK.1 hcs).1;obtain⟨cs',e1,e2,h3⟩:=hp.2 _ _ hcs;simp only[AV.pc.injEq]at e1;subst e1;have hle2:i*e+f+vs.length<=l.length*e:=by have:(i+1)*e<=l.length*e:=ayi _ hi;rw[azs]at this;omega
    refine⟨⟨hp.1,fun j b hb=>?_⟩,by simp,trivial,hle2⟩;rcases qp hb with⟨e',rfl,_⟩|⟨e',hb⟩
    .subst e';refine⟨_,rfl,by rw[Ad hle.1];exact e2,fun k x hk=>?_⟩;rw[Ac hle.1]at hk;split at hk
     .rename_i hk2;obtain⟨u,h4,h5⟩:=hcr _ _ hk;refine⟨u,?_,h5⟩;simp only[over];rw[if_pos (by omega),<- h4];congr 1;omega
     .rename_i hk2;obtain⟨u,h4,h5⟩:=h3 k x hk;refine⟨u,?_,h5⟩;simp only[over];rw[if_neg (by omega)];exact h4
    .obtain ⟨cs',e1,e2',h4⟩:=hp.2 _ _ hb;refine⟨cs',e1,e2',fun k x hk=>?_⟩;obtain⟨u,h5,h6⟩:=h4 k x hk;refine⟨u,?_,h6⟩;simp only[over];rw[if_neg ?_]
     .exact h5
     .have hk':=(axK.1 hk).1;rintro⟨h7,h8⟩;have hlt:j*e+k<(i+1)*e:=by rw[azs];omega
      have hge:i*e<=j*e+k:=by omega
      have d1:(j*e+k)/e=j:=by rw[ayS j e,Nat.mul_add_div hp.1,azy (by omega)];omega
      have d2:(j*e+k)/e<i+1:=(Nat.div_lt_iff_lt_mul hp.1).2 hlt;have d3:i<=(j*e+k)/e:=(Nat.le_div_iff_mul_le hp.1).2 hge;omega
   .cases h
  .cases h
 .rename_i l q _;split at h
  .rename_i c hc;split at h
   .rename_i hle;simp only[axH]at h;subst h;obtain⟨hcl,hcr⟩:=OG hS hq hc;simp only[GP,ah,aS,ayQ]at hp ⊢;refine⟨fun j a ha=>?_,Ad hle.1,trivial,by omega⟩;rw[Ac hle.1]at ha;split at ha
    .rename_i hk;obtain⟨u,h4,h5⟩:=hcr _ _ ha;refine⟨u,?_,h5⟩;simp only[over];rw[if_pos (by omega),<- h4]
    .rename_i hk;obtain⟨u,h4,h5⟩:=hp j a ha;refine⟨u,?_,h5⟩;simp only[over];rw[if_neg (by omega)];exact h4
   .cases h
  .cases h
 .cases h
def ZI(hS:∀ k n,S (.int k n) (.int k n))(hS':∀ k n u,S (.int k n) u->u=.int k n){C:Ctx}{ob:Obj}{t:TypeId}{i f:Nat}{x p':AV}{r:Nat->Option Value}{v:Value}(hp:GP S ob.p r)
 (hx:(∃ q,x=.agg q/\GP S q (fun j=>v.cells[j]?)/\v.cells.size=aV q)\/(scalar x=true/\S x v/\v.oneCell'=true))(h:AU C ob t i f x=some p') :
 GP S p' (over r (i*aS ob.p+f) v.cells.toList)/\ah p'=ah ob.p/\aS p'=aS ob.p/\i*aS ob.p+f+v.cells.size<=ah ob.p*aS ob.p/\v.cells.size=sizeT C t /\
  (∀ u∈v.cells.toList,u.oneCell'=true)/\∃ d,C.P.underlying t=some d:=by
 rcases hx with⟨q,rfl,hq,hl⟩|⟨hs,h1,h2⟩
 .simp only[AU]at h;split at h
  .rename_i hc;have hq':GP S q (fun j=>v.cells.toList[j]?):=by simpa using hq
   obtain⟨h3,h4,h5,h6⟩:=VB hS hp hq' (by simpa using hl) h;refine⟨h3,h4,h5,by simpa using h6,hl.trans hc.1,?_,xM hc.2.1⟩;intro u hu;obtain⟨j,hj⟩:=List.getElem?_of_mem hu;have hlt:=(axK.1 hj).1;have hcl:v.cells.toList.length=aV q:=by simpa using hl
   rw[aV]at hcl;obtain⟨u',h7,h8⟩:=GP.has hq' j (by omega);rw[hj]at h7;simp only[axH]at h7;rw[h7];exact h8
  .cases h
 .have hc:v.cells=#[v]:=by cases v<;>first|rfl|(simp[Value.oneCell']at h2)
  have hx:∀ q,x≠.agg q:=by rintro q rfl;simp[scalar]at hs
  have h':(if bI C t=false/\okT C t=true/\sizeT C t=1/\scalar x=true then UQ ob.p i f x else none)=some p':=by
   unfold AU at h;split at h
   .exact absurd rfl (hx _)
   .exact h
  split at h'
  .rename_i hcond;obtain⟨h3,h4,h5,h6⟩:=GP.set hS' hp h' h1 h2;obtain⟨d,hd,_⟩:=sJ hcond.2.1;refine⟨?_,h4,h5,by rw[hc];simp;omega,by rw[hc,hcond.2.2.1];rfl,by rw[hc];simpa using h2,d,hd⟩;rw[hc];have:over r (i*aS ob.p+f) #[v].toList=fun j=>if j=i*aS ob.p+f then some v else r j:=by
    funext j;simp only[over];by_cases hj:j=i*aS ob.p+f
    .rw [if_pos (by simp;omega),if_pos hj,hj];simp
    .rw [if_neg (by simp;omega),if_neg hj]
   rw[this];exact h3
  .cases h'
end
def LK{C:Ctx}{w:World}{t:TypeId}{d:TypeDesc}(hu:C.P.underlying t=some d){b o:Nat}{cur:Array Value}{E:TypeId}{v:Value}(hg:w.heap[b]?=some (.cells cur E (0,0)))
 (hs:v.cells.size=sizeT C t)(hle:o+v.cells.size<=cur.size)(h1:∀ u∈v.cells.toList,u.oneCell'=true) :
 (storeVar t ⟨b,o,none⟩ v).run C.P w=.ok () (w.setRow b (cur.toList.take o++v.cells.toList++cur.toList.drop (o+v.cells.size)).toArray):=by
 have:=run_storeCells_at C.P b o E v.cells.toList 0 cur w hg (by simpa using hle) h1;simp only[ay0,azM]at this;simp[storeVar,run_sizeOf hu,hs,this]
def OH{cur:Array Value}{o:Nat}{vs:List Value}(hle:o+vs.length<=cur.size)(base k:Nat)(hb:base+k=o)(j:Nat) :
 (cur.toList.take o++vs++cur.toList.drop (o+vs.length)).toArray[base+j]?=over (fun j=>cur[base+j]?) k vs j:=by
 simp only[over,List.getElem?_toArray];have h1:(cur.toList.take o).length=o:=by simp;omega
 by_cases hj:base+j<o
 .rw [if_neg (by omega),ayq,axL (by omega),ayD,if_pos hj];simp
 .rw [ayq,axS (by omega),h1];by_cases hj2:base+j<o+vs.length
  .rw [if_pos (by omega),axL (by omega)];congr 1;omega
  .rw [if_neg (by omega),axS (by omega),ayT];simp only[ayr];congr 1;omega
def wE{T:Nat->Nat->Prop}(hm:∀ t b,T 0 b->T t b){a b r:Nat}(h:dJ a b=some r):(∀ x,T a x->T r x)/\(∀ x,T b x->T r x):=by
 unfold dJ at h;split at h
 .rename_i h0;simp only[axH]at h;subst h0;subst h;exact⟨fun x=>hm _ x,fun _ h=>h⟩
 .split at h
  .rename_i h0 h1;simp only[axH]at h;subst h;rcases h1 with rfl|rfl
   .exact ⟨fun _ h=>h,fun x=>hm _ x⟩
   .exact ⟨fun _ h=>h,fun _ h=>h⟩
  .cases h
def uh{T:Nat->Nat->Prop}(hm:∀ t b,T 0 b->T t b):∀ {l:List Nat} {r:Nat},bY l=some r->∀ t∈l,∀ x,T t x->T r x
 | [],r,_,t,ht=>by simp at ht
 | a::l,r,h,t,ht=>by
  simp only[bY]at h;cases hl:bY l with
  | none=>rw[hl]at h;cases h
  | some r'=>
   rw[hl]at h;obtain⟨h1,h2⟩:=wE hm (show dJ a r'=some r from h);rcases ax2.1 ht with rfl|ht
   .exact h1
   .exact fun x hx=>h2 x (uh hm hl t ht x hx)
def vF:∀ {l:List AV} {a:AV},a∈l->∀ x,x∈ids a->x∈aC l
 | [],a,h,_,_=>by simp at h
 | b::l,a,h,x,hx=>by
  simp only[aC,axV];rcases ax2.1 h with rfl|h
  .exact .inl hx
  .exact .inr (vF h x hx)
def iW:∀ {l:List AV} {a:AV},a∈l->∀ x,x∈tags a->x∈aW l
 | [],a,h,_,_=>by simp at h
 | b::l,a,h,x,hx=>by
  simp only[aW,axV];rcases ax2.1 h with rfl|h
  .exact .inl hx
  .exact .inr (iW h x hx)
def aU.rv{K:Kx}{T:Nat->Nat->Prop}{a:AV}{v:Value}{tg:Nat}(h:aU K T a v)(hi:∀ x,x∉ids a)(ht:∀ t∈tags a,∀ x,T t x->T tg x):RV K.w (NT K T tg) a v:=by
 cases a
 case ptr o i f g=>exact absurd (by simp[ids]) (hi o)
 case sl o i f g=>exact absurd (by simp[ids]) (hi o)
 case map o g=>exact absurd (by simp[ids]) (hi o)
 case ro c p t=>exact ql (fun b hb=>⟨⟨ht t (by simp[tags]) b hb.1,hb.2⟩,fun _ _ h=>h⟩) _ _ h
 all_goals
  simp only[aU]at h;exact ql (fun _ h=>False.elim h) _ _ h
def GP.rv{K:Kx}{T:Nat->Nat->Prop}{p:AV}{r:Nat->Option Value}{tg:Nat}(h:GP (aU K T) p r)(hi:∀ x,x∉ids p)(ht:∀ t∈tags p,∀ x,T t x->T tg x):GP (RV K.w (NT K T tg)) p r:=by
 cases p<;>simp only[GP]at h ⊢<;>try exact h
 case pc l=>
  intro j a ha;obtain⟨v,h1,h2,h3⟩:=h j a ha;have hm:=axT ha;exact⟨v,h1,h2,h3.rv (fun x hx=>hi x (by simp only[ids];exact vF hm x hx)) (fun t ht'=>ht t (by simp only[tags];exact iW hm t ht'))⟩
 case pr e l=>
  refine⟨h.1,fun j a ha=>?_⟩;obtain⟨cs,rfl,h1,h2⟩:=h.2 j a ha;have hm:=axT ha;refine⟨cs,rfl,h1,fun k b hb=>?_⟩;obtain⟨v,h3,h4,h5⟩:=h2 k b hb;have hm2:=axT hb;exact⟨v,h3,h4,h5.rv (fun x hx=>hi x (by simp only[ids];exact vF hm x (by simp only[ids];exact vF hm2 x hx)))
   (fun t ht'=>ht t (by simp only[tags];exact iW hm t (by simp only[tags];exact iW hm2 t ht')))⟩
def Inv.store{C:Ctx}{K:Kx}{T:Nat->Nat->Prop}(hI:Inv C K T){o g:Nat}{ob:Obj}{p':AV}{tg:Nat}{cur:Array Value}{E:TypeId}{k:Nat}{vs:List Value}(hob:live K.H o g=some ob)
 (hpm:ig ob.p=false)(NI:ig p'=false)(hlen:ah p'=ah ob.p)(aeS:aS p'=aS ob.p)(hk:k+vs.length<=ah ob.p*aS ob.p)(hC:(K.μ o).cap≠0)
 (hg:K.w.heap[(K.μ o).blk]?=some (.cells cur E (0,0)))(hcur:(K.μ o).base+(K.μ o).cap*aS ob.p<=cur.size)
 (hpay:fZ K T { ob with p:=p',tg:=tg } (over (fun j=>cur[(K.μ o).base+j]?) k vs)) :
 Inv C ⟨K.μ,upd K.H o (some { ob with p:=p',tg:=tg }),K.w.setRow (K.μ o).blk (cur.toList.take ((K.μ o).base+k)++vs++cur.toList.drop ((K.μ o).base+k+vs.length)).toArray⟩ T /\
  Evo T K.H.length K ⟨K.μ,upd K.H o (some { ob with p:=p',tg:=tg }),K.w.setRow (K.μ o).blk (cur.toList.take ((K.μ o).base+k)++vs++cur.toList.drop ((K.μ o).base+k+vs.length)).toArray⟩:=by
 obtain⟨h1,h2⟩:=cZ.1 hob;obtain⟨hsh,hcl⟩:=(hI.obj o ob h1).open hpm;have hlt:=(axK.1 h1).1;have hle:ah ob.p*aS ob.p<=(K.μ o).cap*aS ob.p:=ayi _ hsh.1;have hfit:(K.μ o).base+k+vs.length<=cur.size:=by omega
 have hO:Own K (K.μ o).blk:=⟨o,ob,h1,.inr hC,rfl⟩;have heq:∀ ob',(upd K.H o (some { ob with p:=p',tg:=tg }))[o]?=some (some ob')->ob'={ ob with p:=p',tg:=tg }:=by
  intro ob' h;rcases qA h with⟨_,h⟩|⟨h,_⟩
  .simpa using h.symm
  .exact absurd rfl h
 refine Inv.turn hI o (by simp[yU]) (fun j hj ob' h=>?_) (by simp) rfl rfl rfl (fun b hb hf=>.inl ?_) (fun ob' h hr=>?_) (fun _ ob' h=>?_) (fun hE ob' h=>?_)
 .rcases qA h with⟨e,_⟩|⟨_,h⟩
  .exact absurd e hj
  .exact ⟨h,rfl⟩
 .exact setRow_other _ _ _ _ (ax6 (hf ob h1 (.inr hC)))
 .exact ⟨.inl ⟨ob,h1,.inr hC,rfl⟩,by simpa using(hI.own _ hO).1⟩
 .have:=heq ob' h;subst this;exact⟨ob,h1,axO _,fun _=>⟨rfl,aeS,hlen,rfl,by simp[hpm,NI]⟩⟩
 .have:=heq ob' h;subst this;unfold gB;split
  .rename_i heq';simp only at heq';rw[heq']at NI;simp[ig]at NI
  .refine ⟨⟨by simp only[hlen];exact hsh.1,hsh.2.1,fun hr=>by simp only[hlen];exact hsh.2.2.1 hr,fun hz=>by simp only[hlen];exact hsh.2.2.2 hz⟩,fun _=>?_⟩;refine⟨_,E,setRow_heap _ _ _ _ _ _ hg,?_,?_,?_⟩
   .simp only[aeS,azd,axR,ayc,axW,azM];omega
   .simp only[aeS];obtain⟨_,_,_,_,h5,_⟩:=hcl hC;exact h5
   .have:(fun j=>(cur.toList.take ((K.μ o).base+k)++vs++cur.toList.drop ((K.μ o).base+k+vs.length)).toArray[(K.μ o).base+j]?)=over (fun j=>cur[(K.μ o).base+j]?) k vs:=by funext j;exact OH hfit _ _ rfl j
    rw[this];exact fZ.evo hE (axO _) hpay
def ZJ{q:AV}{c:List AV}(hc:jD q=some c):c.length=aV q:=by
 cases q<;>simp only[jD,axH,reduceCtorEq]at hc<;>subst hc<;>simp[aV,ah,aS]
def ZK{C:Ctx}{ob:Obj}{t:TypeId}{i f:Nat}{x p':AV}(h:AU C ob t i f x=some p'):ah ob.p≠0:=by
 unfold AU at h;split at h
 .rename_i q;split at h
  .rename_i hc;intro h0;have hq:aV q≠0:=by rw[hc.1];exact hc.2.2
   unfold MV at h;split at h
   .split at h
    .rename_i hl;simp_all [ah,aV];omega
    .cases h
   .split at h
    .rename_i hl;simp_all [ah,aV];omega
    .cases h
   .split at h
    .rename_i hl;simp_all [ah,aV];omega
    .cases h
   .split at h
    .rename_i hcs;have:=(axK.1 hcs).1
     simp_all [ah]
    .cases h
   .split at h
    .rename_i hcs;split at h
     .rename_i hl;have:=ZJ hcs
      simp_all [ah]
     .cases h
    .cases h
   .cases h
  .cases h
 .split at h
  .unfold UQ at h;split at h
   .split at h
    .rename_i hl;intro h0;simp_all [ah]
    .cases h
   .split at h
    .rename_i hl;intro h0;simp_all [ah]
    .cases h
   .split at h
    .rename_i hl;intro h0;simp_all [ah]
    .cases h
   .split at h
    .rename_i hcs;have:=(axK.1 hcs).1;intro h0
     simp_all [ah]
    .cases h
   .cases h
  .cases h
def ac3{K:Kx}{T:Nat->Nat->Prop}{C:Ctx}{ob:Obj}{t:TypeId}{i f:Nat}{x p':AV}{v:Value}(h:AU C ob t i f x=some p')(hv:aF K T x v) :
 (∃ q,x=.agg q/\GP (aU K T) q (fun j=>v.cells[j]?)/\v.cells.size=aV q)\/(scalar x=true/\aU K T x v/\v.oneCell'=true):=by
 unfold AU at h;split at h
 .rename_i q;simp only[aF,aK]at hv;obtain⟨cs,rfl,h1,h2⟩:=hv;exact .inl ⟨q,rfl,h2,h1⟩
 .split at h
  .rename_i hc;have:=aU.YU hc.2.2.2 hv;exact .inr ⟨hc.2.2.2,this,this.cell hc.2.2.2⟩
  .cases h
def VD{C:Ctx}{K:Kx}{T:Nat->Nat->Prop}(hI:Inv C K T){t:TypeId}{a x:AV}{va vx:Value}{H':Heap}(ha:aF K T a va)(hx:aF K T x vx)(h:zG C K.H t a x=some H') :
 ∃ w',(Instr.storeAt t va vx).run C.P K.w=.ok () w'/\Inv C ⟨K.μ,H',w'⟩ T/\Evo T K.H.length K ⟨K.μ,H',w'⟩:=by
 have put:∀ {K:Kx} {o i f g:Nat} {ob:Obj} {x p':AV} {tg:Nat} {S:AV->Value->Prop},Inv C K T->live K.H o g=some ob->aU K T (.ptr o i f g) va ->
  (∀ k n,S (.int k n) (.int k n))->(∀ k n u,S (.int k n) u->u=.int k n)->(∀ r,fZ K T ob r->GP S ob.p r)->(∀ p' r,GP S p' r->fZ K T { ob with p:=p',tg:=tg } r) ->
  ((∃ q,x=.agg q/\GP S q (fun j=>vx.cells[j]?)/\vx.cells.size=aV q)\/(scalar x=true/\S x vx/\vx.oneCell'=true))->AU C ob t i f x=some p' ->
  ∃ w',(Instr.storeAt t va vx).run C.P K.w=.ok () w'/\Inv C ⟨K.μ,upd K.H o (some { ob with p:=p',tg:=tg }),w'⟩ T/\Evo T K.H.length K ⟨K.μ,upd K.H o (some { ob with p:=p',tg:=tg }),w'⟩:=by
  intro K o i f g ob x p' tg S hI hob hv hS hS' hpay aiT hx hput;simp only[aU]at hv;obtain⟨h1,h2⟩:=cZ.1 hob;obtain⟨hpm,rfl⟩:=(hv.2.2 ob h1).2 h2;obtain⟨hsh,hcl⟩:=(hI.obj o ob h1).open hpm;have hsz0:vx.cells.size≠0->ah ob.p≠0->(K.μ o).cap≠0:=fun _ h=>by have:=hsh.1;omega
  by_cases hn:ah ob.p=0
  .-- nothing can be laid into an empty payload but nothing
   exact absurd hn (ZK hput)
  .have hC:(K.μ o).cap≠0:=by have:=hsh.1;omega
   obtain⟨cur,E,h3,h4,h5,h6⟩:=hcl hC;obtain⟨h7,h8,h9,h10,h11,h12,d,hd⟩:=ZI hS hS' (hpay _ h6) hx hput;have NI:ig p'=false:=by cases p'<;>simp_all [GP,ig]
   have:=Inv.store (T:=T) (p':=p') (tg:=tg) (k:=i*aS ob.p+f) (vs:=vx.cells.toList) hI hob hpm NI h8 h9 (by simpa using h10) hC h3 h4 (aiT _ _ h7);refine⟨_,?_,this⟩;have hle:ah ob.p*aS ob.p<=(K.μ o).cap*aS ob.p:=ayi _ hsh.1;simp only[Instr.storeAt,Instr.sureAddr,Sem.run_bind,Sem.run_pure,Result.andThen_ok];have:=LK hd (o:=(K.μ o).base+i*aS ob.p+f) h3 h11 (by omega) h12;rw[this];simp only[azM,<- azC]
 unfold zG at h;split at h
 .rename_i o i f g;split at h
  .cases h
  .rename_i ob hob;split at h
   .rename_i jQ;simp only[ax7]at h;obtain⟨p',hp',rfl⟩:=h;have hsx:=ac3 hp' hx;obtain⟨w',h1,h2,h3⟩:=put (tg:=ob.tg) (S:=aU K T) hI hob (by simpa[aF,aK]using ha) (aU.xO K T) (fun k n u h=>by simpa[aU,RV]using h)
     (fun r h=>by unfold fZ at h;rwa [if_pos jQ]at h) (fun p' r h=>by unfold fZ;rw[if_pos (by exact jQ)];exact h) hsx hp'
    exact⟨w',h1,h2,h3⟩
   .rename_i jQ;split at h
    .cases h
    .rename_i x1 H1 hfr;split at h
     .cases h
     .rename_i ob1 asu;split at h
      .rename_i hemp;split at h
       .cases h
       .rename_i tv htv;split at h
        .cases h
        .rename_i tg htg;simp only[ax7]at h;obtain⟨p',hp',rfl⟩:=h;have hvx:aK K T x vx:=by
          cases x<;>first|(simpa only[aF]using hx)|skip
          case tup l=>
           simp only[rE,nX,axH,axJ]at hfr;obtain⟨rfl,rfl⟩:=hfr;simp[AU,scalar]at hp'
         obtain⟨i1,e1,n1,s1⟩:=Hw hI hvx hfr;have hx1:aF ⟨K.μ,H1,K.w⟩ T x1 vx:=by
          cases x1<;>first|(simpa only[aF]using s1)|skip
          case tup l=>simp[aK,aU,RV]at s1
         have ac4:ob1.ids≠true:=by rw[hemp.2];decide
         have hall:∀ y,y∉ids x1:=by
          intro y hy;have:ids x1=[]:=by simpa using hemp.1
          rw[this]at hy;cases hy
         obtain⟨j1,j2⟩:=wE hI.mono htg;have jt:∀ t∈tags x1,∀ y,T t y->T tg y:=fun t ht y hy=>j2 y (uh hI.mono htv t ht y hy);have hsx:(∃ q,x1=.agg q/\GP (RV K.w (NT ⟨K.μ,H1,K.w⟩ T tg)) q (fun j=>vx.cells[j]?)/\vx.cells.size=aV q)\/(scalar x1=true/\RV K.w (NT ⟨K.μ,H1,K.w⟩ T tg) x1 vx/\vx.oneCell'=true):=by
          rcases ac3 hp' hx1 with⟨q,rfl,h3,h4⟩|⟨h3,h4,h5⟩
          .exact .inl ⟨q,rfl,GP.rv h3 (by simpa only[ids]using hall) (by simpa only[tags]using jt),h4⟩
          .exact .inr ⟨h3,h4.rv hall jt,h5⟩
         obtain⟨w',h3,h4,h5⟩:=put (K:=⟨K.μ,H1,K.w⟩) (tg:=tg) (S:=RV K.w (NT ⟨K.μ,H1,K.w⟩ T tg)) i1 asu (aU.evo e1 (axO _) (by simpa[aF,aK]using ha)) (fun k n=>by simp[RV]) (fun k n u h=>by simpa[RV]using h)
          (fun r h=>by
           unfold fZ at h;rw[if_neg ac4]at h;exact jE.1 (jM (fun b hb=>⟨⟨j1 b hb.1,hb.2⟩,fun _ _ h=>h⟩) _ _ _ (fun _ _ h=>h) h))
          (fun p' r h=>by unfold fZ;rw[if_neg (by exact ac4)];exact jE.2 h) hsx hp'
         exact⟨w',h3,h4,Evo.trans e1 h5 (by show K.H.length<=H1.length;omega)⟩
      .cases h
 .cases h
section
variable {P:Program}{w:World}
def IG{t xt ty e:TypeId}{i:TypeInfo}{dx:TypeDesc}(ht:P.underlying t=some (.slice e))(hx:P.underlying xt=some dx)(hxi:∀ k,dx≠.int k)(hi:P.info? e=some i)
 {ts:Array TypeId}{vs:Array Value}(h0:ts[0]?=some t)(h1:ts[1]?=some xt){g o sLen sCap m:Nat}{x:Value}{news:List Value}(hv0:vs[0]?=some (.slice (some ⟨g,o,none⟩) sLen sCap))(hv1:vs[1]?=some x)
 (hlen:(Builtin.lenOf x).run P w=.ok m w)(hf:(Builtin.firstCells i.size m x).run P w=.ok news.toArray w)(hroom:sLen+m<=sCap)
 {cur:Array Value}{E:TypeId}(hg:w.heap[g]?=some (.cells cur E (0,0)))(hfit:o+sLen*i.size+news.length<=cur.size)(hone:∀ u∈news,u.oneCell'=true) :
 (Builtin.append_ ts ty vs).run P w=.ok (.slice (some ⟨g,o,none⟩) (sLen+m) sCap)
  (w.setRow g (cur.toList.take (o+sLen*i.size)++news++cur.toList.drop (o+sLen*i.size+news.length)).toArray):=by
 have hm:∀ (b:Bool),(match dx with | .int _=>true|_=>b)=b:=fun b=>by cases dx<;>first|rfl|exact absurd rfl (hxi _)
 have hst:=run_storeCells_at P g (o+sLen*i.size) E news 0 cur w hg (by simpa using hfit) hone;simp only[ay0]at hst;simp[Builtin.append_,h0,h1,hv0,hv1,bg ht,bg hx,hm,sizeOf,typeInfo,hi,hlen,hroom,hf,add_lit,hst]
def oH{t xt ty e:TypeId}{i:TypeInfo}{z:Value}{dx:TypeDesc}(ht:P.underlying t=some (.slice e))(hx:P.underlying xt=some dx)(hxi:∀ k,dx≠.int k)(hi:P.info? e=some i)(hz:i.zero=some z)
 {ts:Array TypeId}{vs:Array Value}(h0:ts[0]?=some t)(h1:ts[1]?=some xt){base:Option Addr}{sLen sCap m:Nat}{x:Value}{olds news:List Value}(hv0:vs[0]?=some (.slice base sLen sCap))(hv1:vs[1]?=some x)
 (hlen:(Builtin.lenOf x).run P w=.ok m w)(hf:(Builtin.firstCells i.size m x).run P w.drew=.ok news.toArray w.drew)
 (hfo:(Builtin.firstCells i.size sLen (.slice base sLen sCap)).run P w.drew=.ok olds.toArray w.drew)(hroom:sCap<sLen+m)
 (h63:sLen+m<=4611686018427387904)(hb:(sLen+m)*i.bytes<=140737488355328) :
 (Builtin.append_ ts ty vs).run P w=.ok (.slice (some ⟨w.heap.size,0,none⟩) (sLen+m) (grownCap w (sLen+m) sCap e))
  (w.drew.alloc (.cells (olds.toArray++news.toArray++Builtin.zeroCells z.cells (grownCap w (sLen+m) sCap e-(sLen+m))) e)):=by
 have hm:∀ (b:Bool),(match dx with | .int _=>true|_=>b)=b:=fun b=>by cases dx<;>first|rfl|exact absurd rfl (hxi _)
 have hn:¬ (sLen+m<=sCap):=by omega
 have h63':¬ (9223372036854775807<((sLen:Int)+(m:Int))):=by omega
 have hfit:=growslice_fits hroom hb;have h48':¬ (281474976710656<Builtin.nextslicecap (sLen+m) sCap*i.bytes):=by omega
 simp[Builtin.append_,h0,h1,hv0,hv1,bg ht,bg hx,hm,sizeOf,typeInfo,zeroValue,hi,hz,hlen,hn,h63',h48',Question.forced,hf,hfo,newRow,grownCap];congr 2;apply Array.ext';simp[ayq]
def run_append_nothing{t xt ty e:TypeId}{i:TypeInfo}{dx:TypeDesc}(ht:P.underlying t=some (.slice e))(hx:P.underlying xt=some dx)(hxi:∀ k,dx≠.int k)(hi:P.info? e=some i)
 {ts:Array TypeId}{vs:Array Value}(h0:ts[0]?=some t)(h1:ts[1]?=some xt){base:Option Addr}{sLen sCap:Nat}{x:Value}(hv0:vs[0]?=some (.slice base sLen sCap))(hv1:vs[1]?=some x)
 (hlen:(Builtin.lenOf x).run P w=.ok 0 w)(hf:(Builtin.firstCells i.size 0 x).run P w=.ok #[] w)(hroom:sLen<=sCap) :
 (Builtin.append_ ts ty vs).run P w=.ok (.slice base sLen sCap) w:=by
 have hm:∀ (b:Bool),(match dx with | .int _=>true|_=>b)=b:=fun b=>by cases dx<;>first|rfl|exact absurd rfl (hxi _)
 cases base<;>simp[Builtin.append_,h0,h1,hv0,hv1,bg ht,bg hx,hm,sizeOf,typeInfo,hi,hlen,hroom,hf,storeCells]
end
def yh{p q s:AV}(h:l9 p q=some s)(hn:ah q≠0):aS s=aS q:=by
 unfold l9 at h;split at h
 .simp only[axH]at h;subst h;rfl
 .split at h
  .simp only[axH]at h;subst h;rfl
  .cases h
 .simp only[axH]at h;subst h;rfl
 .split at h
  .rename_i he;simp only[axH]at h;subst h;exact he
  .cases h
 .exact absurd rfl hn
 .simp only[axH]at h;subst h;rfl
 .cases h
def lZ{P:Program}{w:World}(size:Nat)(a:Option Addr)(l c:Nat):(Builtin.firstCells size 0 (.slice a l c)).run P w=.ok #[] w:=by
 cases a<;>simp[Builtin.firstCells,loadCells,loadCellsFrom]
def OI{S:AV->Value->Prop}{p:AV}(h:jq p=true)(h0:ah p=0):LP S p []:=by
 cases p<;>simp only[jq,axZ]at h<;>simp only[ah]at h0<;>simp_all [LP,GP,ah,aS];omega
def LM{K:Kx}{T:Nat->Nat->Prop}{p:AV}{t:Nat}{r:Nat->Option Value}(h:RP K.w (NT K T t) p r):GP (RV K.w (NT K T (kH p t))) p r:=by
 cases p<;>simp only[kH]<;>first|exact jE.1 h|(simp only[RP]at h;simp only[GP];exact h)
def TW{C:Ctx}{K:Kx}{T:Nat->Nat->Prop}(hI:Inv C K T){x ys:AV}{tx:Nat}{v:Value}(hv:aF K T x v)(h:gJ K.H x=some (ys,tx)) :
 ∃ news,LP (RV K.w (NT K T tx)) ys news/\(∀ u∈news,u.oneCell'=true)/\(∀ P w,(Builtin.lenOf v).run P w=.ok (ah ys) w) /\
  (∀ size,(ah ys≠0->size=aS ys)->∀ P w',(∀ b off,w'.cell? ⟨b,off,none⟩=K.w.cell? ⟨b,off,none⟩)->(Builtin.firstCells size (ah ys) v).run P w'=.ok news.toArray w'):=by
 have cells:∀ {p:AV} {a:Option Addr} {cap:Nat} {N:Nat->Prop},jq p=true->(ah p≠0->∃ b off,a=some ⟨b,off,none⟩/\GP (RV K.w N) p (fun j=>K.w.cell? ⟨b,off+j,none⟩)) ->
  ∃ news,LP (RV K.w N) p news/\(∀ u∈news,u.oneCell'=true)/\(∀ P w,(Builtin.lenOf (.slice a (ah p) cap)).run P w=.ok (ah p) w) /\
  (∀ size,(ah p≠0->size=aS p)->∀ P w',(∀ b off,w'.cell? ⟨b,off,none⟩=K.w.cell? ⟨b,off,none⟩)->(Builtin.firstCells size (ah p) (.slice a (ah p) cap)).run P w'=.ok news.toArray w'):=by
  intro p a cap N hb hp;by_cases hn:ah p=0
  .refine ⟨[],OI hb hn,by simp,fun P w=>rfl,fun size _ P w' _=>?_⟩;rw[hn];exact lZ _ _ _ _
  .obtain ⟨b,off,rfl,hg⟩:=hp hn;obtain⟨news,h1,h2,h3⟩:=GP.list hg;refine⟨news,h1,h3,fun P w=>rfl,fun size hs P w' hw=>?_⟩;refine run_firstCells_some (P:=P) w' size (ah p) ⟨b,off,none⟩ _ _ news (by rw[h1.2,hs hn]) (fun j u hu=>?_);rw[add_lit,hw];exact h2 j u hu
 unfold gJ at h;split at h
 .rename_i s;simp only[axH,axJ]at h;obtain⟨rfl,rfl⟩:=h;have:=hv.str;subst this;refine⟨s.map fun b=>Value.int .u8 b.toNat,⟨?_,by simp[ah,aS]⟩,?_,fun P w=>rfl,fun size _ P w' _=>?_⟩
  .simp only[GP];intro j b hb;simp[hb]
  .intro u hu;simp only[ayd]at hu;obtain⟨b,_,rfl⟩:=hu;rfl
  .simp only[Builtin.firstCells,Sem.run_pure,ah];congr 1;have:(⟨⟨s⟩⟩:ByteArray).extract 0 s.length=⟨⟨s⟩⟩:=by apply ByteArray.ext;rw[ByteArray.data_extract];simp
   rw[this];simp
 .rename_i c p t;split at h
  .rename_i hb;simp only[axH,axJ]at h;obtain⟨rfl,rfl⟩:=h;simp only[aF,aK,aU,RV]at hv;obtain⟨ad,cap,rfl,hs,hr⟩:=hv;refine cells hb fun hn=>?_;have had:ad.isSome=true:=hs.2.2.1 (fun h0=>by have:=(hs.2.1 h0).2;have:=hs.1;omega);obtain⟨⟨b,off,sp⟩,rfl⟩:=ayn.1 had;obtain⟨h1,_,h2⟩:=hr _ rfl hn;simp only at h1 h2;subst h1;exact⟨b,off,rfl,LM h2⟩
  .cases h
 .rename_i o off len g;split at h
  .rename_i ob hob;split at h
   .cases h
   .rename_i jQ;split at h
    .rename_i p hp;split at h
     .rename_i hb;simp only[axH,axJ]at h;obtain⟨rfl,rfl⟩:=h;simp only[aF,aK,aU]at hv;obtain⟨h1,h2⟩:=cZ.1 hob;obtain⟨ad,cap,rfl,hs,hr⟩:=EK.ro hI hob jQ ((hv.2.2 ob h1).2 h2) hp;refine cells hb fun hn=>?_;have had:ad.isSome=true:=by
       cases ad with
       | some _=>rfl
       | none=>
        exfalso;have hc:¬ (ob.z=0/\ah ob.p=0):=by intro h0;have:=(hs.2.1 (by rw[if_pos h0])).2;have:=hs.1;omega
        have:=hs.2.2.1 (by rw[if_neg hc];decide);cases this
      obtain⟨⟨b,off',sp⟩,rfl⟩:=ayn.1 had;obtain⟨h3,_,_,h4⟩:=hr _ rfl hn;simp only at h3 h4;subst h3;exact⟨b,off',rfl,LM h4⟩
     .cases h
    .cases h
  .cases h
 .cases h
def Inv.become{C:Ctx}{K:Kx}{T:Nat->Nat->Prop}(hI:Inv C K T){o g:Nat}{ob:Obj}(hob:live K.H o g=some ob)(ob':Obj)(m:Pl){w':World}(hgen:ob.g<ob'.g)
 (hsz:K.w.heap.size<=w'.heap.size)(hos:w'.os=K.w.os)(htape:w'.tape=K.w.tape)(hout:w'.output=K.w.output)
 (hold:∀ b,b<K.w.heap.size->(Real ob (K.μ o)->(K.μ o).blk≠b)->w'.heap[b]?=K.w.heap[b]?)
 (hm:Real ob' m->((Real ob (K.μ o)/\(K.μ o).blk=m.blk)\/K.w.heap.size<=m.blk)/\m.blk<w'.heap.size)
 (EM:∀ μ',μ' o=m->Evo T K.H.length K ⟨μ',upd K.H o (some ob'),w'⟩->gB ⟨μ',upd K.H o (some ob'),w'⟩ T o ob') :
 ∃ μ',μ' o=m/\Inv C ⟨μ',upd K.H o (some ob'),w'⟩ T/\Evo T K.H.length K ⟨μ',upd K.H o (some ob'),w'⟩:=by
 obtain⟨h1,h2⟩:=cZ.1 hob;let μ':Nat->Pl:=fun j=>if j=o then m else K.μ j
 have e1:μ' o=m:=by simp[μ']
 have e2:∀ j,j≠o->μ' j=K.μ j:=fun j hj=>by simp[μ',hj]
 have heq:∀ x,(upd K.H o (some ob'))[o]?=some (some x)->x=ob':=by
  intro x h;rcases qA h with⟨_,h⟩|⟨h,_⟩
  .simpa using h.symm
  .exact absurd rfl h
 refine⟨μ',e1,Inv.turn hI o (by simp[yU]) (fun j hj x h=>?_) hsz hos htape hout (fun b hb hf=>.inl (hold b hb (hf ob h1))) (fun x h hr=>?_) (fun _ x h=>?_) (fun hE x h=>?_)⟩
 .rcases qA h with⟨e,_⟩|⟨_,h⟩
  .exact absurd e hj
  .exact ⟨h,e2 j hj⟩
 .have:=heq x h;subst this;simp only[e1]at hr ⊢;obtain⟨h3,h4⟩:=hm hr;refine⟨?_,h4⟩;rcases h3 with⟨h5,h6⟩|h5
  .exact .inl ⟨ob,h1,h5,h6⟩
  .exact .inr h5
 .have:=heq x h;subst this;exact⟨ob,h1,Nat.le_of_lt hgen,fun e=>by omega⟩
 .have:=heq x h;subst this;exact EM μ' e1 hE
def OJ{C:Ctx}{e:TypeId}(h:bM C e=true):∃ i z,C.P.info? e=some i/\i.zero=some z/\z.cells.size=sizeT C e/\i.size=sizeT C e/\i.bytes=bH C e:=by
 unfold bM at h;split at h
 .rename_i z hz;cases hi:C.P.info? e with
  | none=>rw[hi]at hz;simp at hz
  | some i=>
   rw[hi]at hz;simp at hz;exact⟨i,z,rfl,hz,by simpa using h,by simp[sizeT,hi],by simp[bH,hi]⟩
 .cases h
def LP.abW{S:AV->Value->Prop}{p:AV}{cs:List Value}(h:LP S p cs)(rest:Array Value):GP S p (fun j=>(cs.toArray++rest)[j]?):=by
 refine GP.imp (fun _ _ h=>h) (fun j u hu=>?_) h.1;have:=(axK.1 hu).1;rw[Array.getElem?_append_left (by simpa using this)];simpa using hu
def LP.mono{S S':AV->Value->Prop}{p:AV}{cs:List Value}(hS:∀ a v,S a v->S' a v)(h:LP S p cs):LP S' p cs:=⟨GP.imp hS (fun _ _ h=>h) h.1,h.2⟩
def ZL{p q:AV}{lo n:Nat}(h:gq p lo n=some q)(hp:aS p≠0):jq q=true:=by
 cases p<;>try (simp[gq]at h;done)
 all_goals try simp only[gq]at h
 case pn=>
  cases lo with
  | succ lo=>simp at h
  | zero=>cases n with
   | succ n=>simp at h
   | zero=>simp at h;subst h;rfl
 all_goals
  split at h
  .simp only[axH]at h;subst h
   simp_all [jq,aS]
  .cases h
def Rh{C:Ctx}{K:Kx}{T:Nat->Nat->Prop}(hI:Inv C K T){t xt ty:TypeId}{s x r:AV}{H':Heap}{vs vx:Value}{ts:Array TypeId}{args:Array Value}(hs:aF K T s vs)(hx:aF K T x vx)
 (h:bG C K.H t s x=some (r,H'))(h0:ts[0]?=some t)(h1:ts[1]?=some xt)(hok:okT C xt=true)(hni:bZ C xt=false)(ha0:args[0]?=some vs)(ha1:args[1]?=some vx) :
 ∃ u w' μ',(Builtin.append_ ts ty args).run C.P K.w=.ok u w'/\Inv C ⟨μ',H',w'⟩ T/\Evo T K.H.length K ⟨μ',H',w'⟩/\aF ⟨μ',H',w'⟩ T r u:=by
 obtain⟨dx,hdx,asv⟩:=sJ hok;have hxi:∀ k,dx≠.int k:=by rintro k rfl;unfold bZ at hni;rw[asv]at hni;cases hni
 unfold bG at h;split at h
 .rename_i e hu;have hu':=bf hu (by simp);split at h
  .cases h
  .rename_i hcond;have hsz:sizeT C e≠0:=fun h=>hcond (.inl h);have hzo:bM C e=true:=by
    cases hz:bM C e
    .exact absurd (.inr hz) hcond
    .rfl
   obtain⟨i,z,hi,hz,hzs,his,hib⟩:=OJ hzo;split at h
   .cases h
   .rename_i ys tx hsrc;obtain⟨news,hnews,hone,hlen,hcells⟩:=TW hI hx hsrc;have TY:∀ b off,K.w.drew.cell? ⟨b,off,none⟩=K.w.cell? ⟨b,off,none⟩:=fun _ _=>rfl;split at h
    .rename_i c p tg;split at h
     .rename_i hc;obtain⟨hc1,hpb,hroom⟩:=hc;obtain⟨hr1,hr2⟩:=of_decide_eq_true hroom;simp only[aF,aK,aU,RV]at hs;obtain⟨ad,cap,rfl,hsh,hrd⟩:=hs;split at h
      .rename_i hp0;split at h
       .rename_i q hq;split at h
        .rename_i hqe;simp only[axH,axJ]at h;obtain⟨rfl,rfl⟩:=h;have hcap:cap=0:=by
          rcases Nat.lt_or_ge c 1 with h|h
          .exact (hsh.2.1 (by omega)).2
          .have:=hsh.2.2.2 (by omega);omega
         subst hcap;have hemp:LP (RV K.w (NT K T tx)) (dh C e) []:=by
          unfold dh;split<;>simp[LP,GP,ah,aS]
          all_goals omega
         obtain⟨hq1,hq2⟩:=LP.app hemp hnews hq;simp only[ax8]at hq1;have hel:ah (dh C e)=0:=by unfold dh;split<;>rfl
         rw[hel,ayg]at hq2;have tq:ig q=false:=by have:=hq1.1;cases q<;>simp_all [GP,ig]
         by_cases hm:ah ys=0
         .have hf:=hcells i.size (fun h=>absurd hm h) C.P K.w (fun _ _=>rfl);have hn0:news=[]:=by have:=hnews.2;rw[hm]at this;simpa using this
          subst hn0;rw[hm]at hf hlen;obtain⟨μ',i1,i2,i3⟩:=pushNone hI ⟨q,0,none,c,true,false,tx⟩ rfl rfl tq (by simp only;omega) rfl (ad:=ad) (fun hz=>(hsh.2.1 hz).1) (fun hz=>hsh.2.2.1 hz);refine⟨_,_,μ',run_append_nothing (w:=K.w) hu' hdx hxi hi h0 h1 ha0 ha1 (hlen C.P K.w) hf (by omega),i1,i2,?_⟩;rw[hm,hp0];exact i3
         .have hse:i.size=aS ys:=by rw[his,<- hqe];exact(yh hq hm)
          have hf:=hcells i.size (fun _=>hse) C.P K.w.drew TY;have hfo:(Builtin.firstCells i.size (ah p) (.slice ad (ah p) 0)).run C.P K.w.drew=.ok ([]:List Value).toArray K.w.drew:=by rw[hp0];exact lZ _ _ _ _
          have hrun:=oH (w:=K.w) (ty:=ty) hu' hdx hxi hi hz h0 h1 ha0 ha1 (hlen C.P K.w) hf hfo (by omega) (by omega) (by rw[hib];omega);obtain⟨μ',i1,i2,i3⟩:=pushRow (T:=T) (w':=K.w.drew.alloc (.cells (([]:List Value).toArray++news.toArray++Builtin.zeroCells z.cells (grownCap K.w (ah p+ah ys) 0 e-(ah p+ah ys))) e))
           (cs:=([]:List Value).toArray++news.toArray++Builtin.zeroCells z.cells (grownCap K.w (ah p+ah ys) 0 e-(ah p+ah ys))) (E:=e) (cap:=grownCap K.w (ah p+ah ys) 0 e)
           hI ⟨q,0,none,c,true,false,tx⟩ rfl rfl (fun _=>by simp only;omega) tq (by simp) rfl rfl rfl (lC K.w.drew _) (fun b hb=>alloc_old K.w.drew _ hb)
           (by simp only;rw[hq2];have:=grownCap_ge K.w (ah p+ah ys) 0 e;omega)
           (by
            have hg:=grownCap_ge K.w (ah p+ah ys) 0 e;simp only[azX,azd,ax3,ayg,size_zeroCells,hzs,hqe,hnews.2];rw[<- hse,his,<- ayI,hp0];rw[hp0]at hg;apply ayi;omega)
           (by simp only;omega) (fun c hc=>by cases hc)
           (by
            unfold fZ;simp only[axZ,if_false];refine jE.2 ?_;have:=hq1.abW (Builtin.zeroCells z.cells (grownCap K.w (ah p+ah ys) 0 e-(ah p+ah ys)));simpa using this)
          refine⟨_,_,μ',hrun,i1,i2,?_⟩;simp only[hq2]at i3;rw[hp0,ayg]at i3 ⊢;exact i3
        .cases h
       .cases h
      .rename_i hp0;split at h
       .rename_i hy0;simp only[axH,axJ]at h;obtain⟨rfl,rfl⟩:=h;have hf:=hcells i.size (fun h=>absurd hy0 h) C.P K.w (fun _ _=>rfl);have hn0:news=[]:=by have:=hnews.2;rw[hy0]at this;simpa using this
        subst hn0;rw[hy0]at hf hlen;refine⟨_,_,K.μ,run_append_nothing (w:=K.w) hu' hdx hxi hi h0 h1 ha0 ha1 (hlen C.P K.w) hf hsh.1,hI,Evo.refl T K (axO _),?_⟩;simp only[aF,aK,aU,RV];exact⟨ad,cap,rfl,hsh,hrd⟩
       .rename_i hy0;split at h
        .rename_i hpe;obtain⟨hpe,rfl⟩:=hpe;split at h
         .rename_i q tg' hq htg;split at h
          .rename_i hqe;simp only[axH,axJ]at h;obtain⟨rfl,rfl⟩:=h;have hcap:=hsh.2.2.2 rfl;subst hcap;obtain⟨⟨b,off,sp⟩,rfl⟩:=ayn.1 (hsh.2.2.1 (by decide));obtain⟨r1,r2,r3⟩:=hrd _ rfl hp0;simp only at r1 r2 r3;subst r1;obtain⟨j1,j2⟩:=wE hI.mono htg;obtain⟨olds,ho1,ho2,ho3⟩:=GP.list (LM r3);have mono:∀ {t1:Nat},(∀ x,T t1 x->T tg' x)->∀ a v,RV K.w (NT K T t1) a v->RV K.w (NT K T tg') a v:=fun hj a v h=>ql (fun b hb=>⟨⟨hj b hb.1,hb.2⟩,fun _ _ h=>h⟩) a v h;obtain⟨hq1,hq2⟩:=LP.app (ho1.mono (mono j1)) (hnews.mono (mono j2)) hq;have tq:ig q=false:=by have:=hq1.1;cases q<;>simp_all [GP,ig]
           have hse:i.size=aS ys:=by rw[his,<- hqe];exact(yh hq hy0)
           have hf:=hcells i.size (fun _=>hse) C.P K.w.drew TY;have hfo:(Builtin.firstCells i.size (ah p) (.slice (some ⟨b,off,none⟩) (ah p) (ah p))).run C.P K.w.drew=.ok olds.toArray K.w.drew :=
            run_firstCells_some (P:=C.P) K.w.drew i.size (ah p) ⟨b,off,none⟩ _ _ olds (by rw[ho1.2,hpe,his]) (fun j u hu=>by rw[add_lit];exact ho2 j u hu)
           have hrun:=oH (w:=K.w) (ty:=ty) hu' hdx hxi hi hz h0 h1 ha0 ha1 (hlen C.P K.w) hf hfo (by omega) (by omega) (by rw[hib];omega);obtain⟨μ',i1,i2,i3⟩:=pushRow (T:=T) (w':=K.w.drew.alloc (.cells (olds.toArray++news.toArray++Builtin.zeroCells z.cells (grownCap K.w (ah p+ah ys) (ah p) e-(ah p+ah ys))) e))
            (cs:=olds.toArray++news.toArray++Builtin.zeroCells z.cells (grownCap K.w (ah p+ah ys) (ah p) e-(ah p+ah ys))) (E:=e) (cap:=grownCap K.w (ah p+ah ys) (ah p) e)
            hI ⟨q,0,none,1,true,false,tg'⟩ rfl rfl (fun h=>by cases h) tq (by simp) rfl rfl rfl (lC K.w.drew _) (fun b hb=>alloc_old K.w.drew _ hb)
            (by simp only;rw[hq2];exact grownCap_ge _ _ _ _)
            (by
             have hg:=grownCap_ge K.w (ah p+ah ys) (ah p) e;simp only[azX,azd,size_zeroCells,hzs,hqe,hnews.2,ho1.2];rw[<- hse,his,hpe,<- ayI,<- ayI];apply ayi;omega)
            (by simp only;omega) (fun c hc=>by cases hc)
            (by
             unfold fZ;simp only[axZ,if_false];refine jE.2 ?_;have:=hq1.abW (Builtin.zeroCells z.cells (grownCap K.w (ah p+ah ys) (ah p) e-(ah p+ah ys)));simpa using this)
           refine⟨_,_,μ',hrun,i1,i2,?_⟩;simp only[hq2]at i3;exact i3
          .cases h
         .cases h
        .cases h
     .cases h
    .rename_i o off len g;split at h
     .cases h
     .rename_i ob hob;split at h
      .rename_i hc;obtain⟨hrow,jQ,asw,hpe,hroom⟩:=hc;obtain⟨hr1,hr2⟩:=of_decide_eq_true hroom;split at h
       .cases h
       .rename_i p0 hp0;split at h
        .rename_i q tg' hq htg;split at h
         .cases h
         .rename_i asx;have hqe:aS q=sizeT C e:=by simpa using asx
          simp only[axH,axJ]at h;obtain⟨rfl,rfl⟩:=h;simp only[aF,aK,aU]at hs;obtain⟨ho,hg⟩:=cZ.1 hob;obtain⟨hpm,ad,cap,rfl,s1,s2,s3,s4,s5⟩:=(hs.2.2 ob ho).2 hg;obtain⟨hsh,hcl⟩:=(hI.obj o ob ho).open hpm;obtain⟨j1,j2⟩:=wE hI.mono htg;have mono:∀ {t1:Nat},(∀ x,T t1 x->T tg' x)->∀ a v,RV K.w (NT K T t1) a v->RV K.w (NT K T tg') a v:=fun hj a v h=>ql (fun b hb=>⟨⟨hj b hb.1,hb.2⟩,fun _ _ h=>h⟩) a v h;have hlen0:=Bj hp0;let ob':Obj:={ ob with p:=q,g:=g+1,cap:=(match ob.cap with|some c=>if off+len+ah ys<=c then some (c-off)else none|none=>none),z:=(if ah ob.p=0 then ob.z else 1),tg:=tg' };have fin:∀ {K':Kx} {u:Value} {m:Pl},K'.H=upd K.H o (some ob')->K'.μ o=m->(∃ ad cap,u=.slice ad (len+ah ys) cap/\cap=m.cap/\len+ah ys<=ah q/\(cap≠0->ad=some ⟨m.blk,m.base,none⟩)/\(m.cap=0->ob'.z=0->ad=none)/\(m.cap≠0\/ob'.z≠0->ad.isSome=true)) ->
           ig q=false->aF K' T (.sl o 0 (len+ah ys) (g+1)) u:=by
           rintro K' u m hH hm ⟨ad,cap,rfl,f1,f2,f3,f4,f5⟩ tq;simp only[aF,aK,aU];refine⟨by rw[hH,yU];exact hs.1,rfl,fun x hx=>?_⟩;rw[hH]at hx;have:x=ob':=by
            rcases qA hx with⟨_,h⟩|⟨h,_⟩
            .simpa using h.symm
            .exact absurd rfl h
           subst this;refine⟨axO _,fun _=>⟨tq,ad,cap,rfl,by rw[hm];omega,by simp only[ob'];omega,fun hc=>by rw[f3 hc,hm];simp,fun hc hz=>f4 (by rw[<- hm];exact hc) hz,fun hc=>f5 (by rw[<- hm];exact hc)⟩⟩
          by_cases hC:(K.μ o).cap=0
          .-- no room: nothing there,and a new block if anything comes
           have hpl:ah ob.p=0:=by have:=hsh.1;omega
           have hl0:len=0:=by omega
           have ho0:off=0:=by omega
           have hcap0:cap=0:=by omega
           subst hl0;subst ho0;subst hcap0;have asy:LP (RV K.w (NT K T ob.tg)) p0 []:=OI (ZL hp0 (by omega)) hlen0;obtain⟨hq1,hq2⟩:=LP.app (asy.mono (mono j1)) (hnews.mono (mono j2)) hq;simp only[ax8]at hq1;rw[hlen0,ayg]at hq2;have tq:ig q=false:=by have:=hq1.1;cases q<;>simp_all [GP,ig]
           have hz':ob'.z=ob.z:=by simp only[ob',hpl,if_true]
           by_cases hm:ah ys=0
           .have hf:=hcells i.size (fun h=>absurd hm h) C.P K.w (fun _ _=>rfl);have hn0:news=[]:=by have:=hnews.2;rw[hm]at this;simpa using this
            subst hn0;rw[hm]at hf hlen;obtain⟨μ',i0,i1,i2⟩:=Inv.become (T:=T) (w':=K.w) hI hob ob' ⟨0,0,0⟩ (by simp only[ob'];omega) (axO _) rfl rfl rfl (fun _ _ _=>rfl)
             (fun h=>by rcases h with h|h<;>simp_all [ob'])
             (fun μ' hμ hE=>by
              unfold gB;split
              .rename_i heq;simp only[ob']at heq;rw[heq]at tq;simp[ig]at tq
              .simp only[hμ];refine⟨⟨by simp only[ob'];omega,fun c hc=>?_,fun h=>by simp[ob',hrow]at h,fun _=>.inl rfl⟩,fun h=>absurd rfl h⟩;simp only[ob']at hc;cases hoc:ob.cap with
               | none=>simp[hoc]at hc
               | some c0=>
                have:=hsh.2.1 c0 hoc;simp only[hoc,hm]at hc;rw[if_pos (by omega)]at hc;simp only[axH]at hc;simp only;omega)
            refine⟨_,_,μ',run_append_nothing (w:=K.w) hu' hdx hxi hi h0 h1 ha0 ha1 (hlen C.P K.w) hf (by omega),i1,i2,?_⟩;refine fin (m:=⟨0,0,0⟩) rfl i0 ⟨ad,0,by rw[hm],rfl,by omega,fun h=>absurd rfl h,fun _ hz0=>s4 hC (by rw[<- hz'];exact hz0),fun h=>?_⟩ tq;rcases h with h|h
            .exact absurd rfl h
            .exact s5 (.inr (by rw[<- hz'];exact h))
           .have hse:i.size=aS ys:=by rw[his,<- hqe];exact(yh hq hm)
            have hf:=hcells i.size (fun _=>hse) C.P K.w.drew TY;have hfo:(Builtin.firstCells i.size 0 (.slice ad 0 0)).run C.P K.w.drew=.ok ([]:List Value).toArray K.w.drew:=lZ _ _ _ _;have hrun:=oH (w:=K.w) (ty:=ty) hu' hdx hxi hi hz h0 h1 ha0 ha1 (hlen C.P K.w) hf hfo (by omega) (by omega) (by rw[hib];omega);have hgc:=grownCap_ge K.w (0+ah ys) 0 e;obtain⟨μ',i0,i1,i2⟩:=Inv.become (T:=T) (w':=K.w.drew.alloc (.cells (([]:List Value).toArray++news.toArray++Builtin.zeroCells z.cells (grownCap K.w (0+ah ys) 0 e-(0+ah ys))) e))
             hI hob ob' ⟨K.w.heap.size,0,grownCap K.w (0+ah ys) 0 e⟩ (by simp only[ob'];omega) (by simp) rfl rfl rfl (fun b hb _=>alloc_old K.w.drew _ hb)
             (fun _=>⟨.inr (axO _),by simp⟩)
             (fun μ' hμ hE=>by
              unfold gB;split
              .rename_i heq;simp only[ob']at heq;rw[heq]at tq;simp[ig]at tq
              .simp only[hμ];refine⟨⟨by simp only[ob'];omega,fun c hc=>?_,fun h=>by simp[ob',hrow]at h,fun _=>.inr (by simp only[ob'];omega)⟩,fun _=>⟨_,e,lC K.w.drew _,?_,by simp only[ob'];omega,?_⟩⟩
               .simp only[ob']at hc;cases hoc:ob.cap with
                | none=>simp[hoc]at hc
                | some c0=>
                 have:=hsh.2.1 c0 hoc;simp only[hoc]at hc;rw[if_neg (by omega)]at hc;cases hc
               .simp only[ob',azX,azd,ax3,ayg,size_zeroCells,hzs,hqe,hnews.2];rw[<- hse,his,<- ayI];apply ayi;simp only[ayg]at hgc;omega
               .refine fZ.evo hE (axO _) ?_;unfold fZ;rw[if_neg (by simp only[ob',jQ];decide)];refine jE.2 ?_;have:=hq1.abW (Builtin.zeroCells z.cells (grownCap K.w (0+ah ys) 0 e-(0+ah ys)));simpa using this)
            refine⟨_,_,μ',hrun,i1,i2,?_⟩;exact fin (m:=⟨K.w.heap.size,0,grownCap K.w (0+ah ys) 0 e⟩) rfl i0 ⟨_,_,rfl,rfl,by omega,fun _=>rfl,fun h=>by simp only at h;omega,fun _=>rfl⟩ tq
          .obtain ⟨cur,E,c1,c2,c3,c4⟩:=hcl hC;unfold fZ at c4;rw[if_neg (by rw[jQ];decide)]at c4;have hsub:=(GP.sub (jE.1 c4) hp0).1;have asz:aS p0=sizeT C e:=by rw[(GP.sub (jE.1 c4) hp0).2.2.1,hpe]
           obtain⟨olds,ho1,ho2,ho3⟩:=GP.list hsub;obtain⟨hq1,hq2⟩:=LP.app (ho1.mono (mono j1)) (hnews.mono (mono j2)) hq;rw[hlen0]at hq2;have tq:ig q=false:=by have:=hq1.1;cases q<;>simp_all [GP,ig]
           have hol:olds.length=len*sizeT C e:=by rw[ho1.2,hlen0,asz]
           have hnl:news.length=ah ys*sizeT C e:=by
            rw[hnews.2];by_cases hm:ah ys=0
            .rw [hm];simp
            .rw [<- yh hq hm,hqe]
           have hse:ah ys≠0->i.size=aS ys:=fun hm=>by rw[his,<- hqe];exact(yh hq hm)
           have hz':ob'.z≠0:=by
            simp only[ob'];split
            .rename_i hpl;intro hz0;rcases hsh.2.2.2 hz0 with h|h
             .exact hC h
             .exact h hpl
            .decide
           have hoc:∀ c,ob'.cap=some c->∃ c0,ob.cap=some c0/\c0=(K.μ o).cap/\off+len+ah ys<=c0/\c=c0-off:=by
            intro c hc;simp only[ob']at hc;cases hoc:ob.cap with
            | none=>simp[hoc]at hc
            | some c0=>
             simp only[hoc]at hc;split at hc
             .rename_i hle;simp only[axH]at hc;exact⟨c0,rfl,hsh.2.1 c0 hoc,hle,hc.symm⟩
             .cases hc
           by_cases aeT:len+ah ys<=cap
           .by_cases hcap:cap=0
            .have hm:ah ys=0:=by omega
             have hl0:len=0:=by omega
             have hf:=hcells i.size (fun h=>absurd hm h) C.P K.w (fun _ _=>rfl);have hn0:news=[]:=by have:=hnews.2;rw[hm]at this;simpa using this
             subst hn0;rw[hm]at hf hlen;obtain⟨μ',i0,i1,i2⟩:=Inv.become (T:=T) (w':=K.w) hI hob ob' ⟨0,0,0⟩ (by simp only[ob'];omega) (axO _) rfl rfl rfl (fun _ _ _=>rfl)
              (fun h=>by rcases h with h|h<;>simp_all [ob'])
              (fun μ' hμ hE=>by
               unfold gB;split
               .rename_i heq;simp only[ob']at heq;rw[heq]at tq;simp[ig]at tq
               .simp only[hμ];refine⟨⟨by simp only[ob'];omega,fun c hc=>?_,fun h=>by simp[ob',hrow]at h,fun _=>.inl rfl⟩,fun h=>absurd rfl h⟩;obtain⟨c0,_,h2,_,h4⟩:=hoc c hc;simp only;omega)
             refine⟨_,_,μ',run_append_nothing (w:=K.w) hu' hdx hxi hi h0 h1 ha0 ha1 (hlen C.P K.w) hf (by omega),i1,i2,?_⟩;exact fin (m:=⟨0,0,0⟩) rfl i0 ⟨ad,cap,by rw[hm,hl0],hcap,by omega,fun h=>absurd hcap h,fun _ hz0=>absurd hz0 hz',fun _=>s5 (.inl hC)⟩ tq
            .have had:=s3 hcap;subst had;have hf:=hcells i.size hse C.P K.w (fun _ _=>rfl);have hCe:(off+len+ah ys)*sizeT C e<=(K.μ o).cap*sizeT C e:=ayi _ (by omega);rw[hpe]at c2;rw[ayI,ayI]at hCe;rw[hpe]at ha0;have hrun:=IG (w:=K.w) (ty:=ty) hu' hdx hxi hi h0 h1 ha0 ha1 (hlen C.P K.w) hf aeT c1 (by rw[his];omega) hone;have hO:Own K (K.μ o).blk:=⟨o,ob,ho,.inr hC,rfl⟩;obtain⟨μ',i0,i1,i2⟩:=Inv.become (T:=T) (w':=K.w.setRow (K.μ o).blk (cur.toList.take ((K.μ o).base+off*sizeT C e+len*i.size)++news++cur.toList.drop ((K.μ o).base+off*sizeT C e+len*i.size+news.length)).toArray)
              hI hob ob' ⟨(K.μ o).blk,(K.μ o).base+off*sizeT C e,(K.μ o).cap-off⟩ (by simp only[ob'];omega) (by simp) rfl rfl rfl
              (fun b hb hne=>setRow_other _ _ _ _ (ax6 (hne (.inr hC))))
              (fun _=>⟨.inl ⟨.inr hC,rfl⟩,by simpa using(hI.own _ hO).1⟩)
              (fun μ' hμ hE=>by
               unfold gB;split
               .rename_i heq;simp only[ob']at heq;rw[heq]at tq;simp[ig]at tq
               .simp only[hμ];refine⟨⟨by simp only[ob'];omega,fun c hc=>?_,fun h=>by simp[ob',hrow]at h,fun h=>absurd h hz'⟩,fun _=>⟨_,E,setRow_heap _ _ _ _ _ _ c1,?_,by simp only[ob'];omega,?_⟩⟩
                .obtain ⟨c0,_,h2,_,h4⟩:=hoc c hc;simp only;omega
                .simp only[ob',hqe,azd,axR,ayc,axW,azM];have:((K.μ o).cap-off)*sizeT C e+off*sizeT C e=(K.μ o).cap*sizeT C e:=by rw[<- ayI];congr 1;omega
                 omega
                .refine fZ.evo hE (axO _) ?_;unfold fZ;rw[if_neg (by simp only[ob',jQ];decide)];refine jE.2 (GP.imp (fun _ _ h=>h) (fun j u hu=>?_) hq1.1);rw[OH (by rw[his];omega) ((K.μ o).base+off*sizeT C e) (len*i.size) rfl j];simp only[over,his];rcases ug hu with⟨hj,hu⟩|⟨hj,hu⟩
                 .rw [if_neg (by omega)];have:=ho2 j u hu;rw[hpe]at this;rw[<- this];congr 1;omega
                 .have hlt:=(axK.1 hu).1;rw[if_pos (by omega),<- hol];exact hu)
             refine⟨_,_,μ',hrun,i1,i2,?_⟩;exact fin (m:=⟨(K.μ o).blk,(K.μ o).base+off*sizeT C e,(K.μ o).cap-off⟩) rfl i0 ⟨_,cap,rfl,by simp only;omega,by omega,fun _=>rfl,fun _ hz0=>absurd hz0 hz',fun _=>rfl⟩ tq
           .have hf:=hcells i.size hse C.P K.w.drew TY;have hfo:(Builtin.firstCells i.size len (.slice ad len cap)).run C.P K.w.drew=.ok olds.toArray K.w.drew:=by
             by_cases hl0:len=0
             .have:olds=[]:=by rw[hl0]at hol;simpa using hol
              rw[hl0,this];exact lZ _ _ _ _
             .have had:=s3 (by have:=hsh.1;omega);subst had;refine run_firstCells_some (P:=C.P) K.w.drew i.size len _ _ _ olds (by rw[hol,his]) (fun j u hu=>?_);rw[add_lit];have:=ho2 j u hu;show K.w.cell? _=_;simp only[World.cell?,c1];simp only[Option.isSome_none,axZ,if_false];rw[<- this];congr 1;omega
            have hrun:=oH (w:=K.w) (ty:=ty) hu' hdx hxi hi hz h0 h1 ha0 ha1 (hlen C.P K.w) hf hfo (by omega) (by omega) (by rw[hib];omega);have hgc:=grownCap_ge K.w (len+ah ys) cap e;obtain⟨μ',i0,i1,i2⟩:=Inv.become (T:=T) (w':=K.w.drew.alloc (.cells (olds.toArray++news.toArray++Builtin.zeroCells z.cells (grownCap K.w (len+ah ys) cap e-(len+ah ys))) e))
             hI hob ob' ⟨K.w.heap.size,0,grownCap K.w (len+ah ys) cap e⟩ (by simp only[ob'];omega) (by simp) rfl rfl rfl (fun b hb _=>alloc_old K.w.drew _ hb)
             (fun _=>⟨.inr (axO _),by simp⟩)
             (fun μ' hμ hE=>by
              unfold gB;split
              .rename_i heq;simp only[ob']at heq;rw[heq]at tq;simp[ig]at tq
              .simp only[hμ];refine⟨⟨by simp only[ob'];omega,fun c hc=>?_,fun h=>by simp[ob',hrow]at h,fun h=>absurd h hz'⟩,fun _=>⟨_,e,lC K.w.drew _,?_,by simp only[ob'];omega,?_⟩⟩
               .obtain ⟨c0,_,h2,h3,h4⟩:=hoc c hc;omega
               .simp only[ob',azX,azd,ayg,size_zeroCells,hzs,hqe,hnl,hol];rw[<- ayI,<- ayI];apply ayi;omega
               .refine fZ.evo hE (axO _) ?_;unfold fZ;rw[if_neg (by simp only[ob',jQ];decide)];refine jE.2 ?_;have:=hq1.abW (Builtin.zeroCells z.cells (grownCap K.w (len+ah ys) cap e-(len+ah ys)));simpa using this)
            refine⟨_,_,μ',hrun,i1,i2,?_⟩;exact fin (m:=⟨K.w.heap.size,0,grownCap K.w (len+ah ys) cap e⟩) rfl i0 ⟨_,_,rfl,rfl,by omega,fun _=>rfl,fun _ hz0=>absurd hz0 hz',fun _=>rfl⟩ tq
        .cases h
      .cases h
    .cases h
 .cases h
def BP{e:Nat}(he:0<e):∀ {l:List AV},(∀ (j:Nat) (a:AV),l[j]?=some a->∃ cs,a=.pc cs/\cs.length=e) ->
 (l.flatMap fun | .pc r=>r|_=>[]).length=l.length*e /\
 ∀ (k:Nat) (b:AV),(l.flatMap fun | .pc r=>r|_=>[])[k]?=some b->∃ cs,l[k/e]?=some (.pc cs)/\cs[k%e]?=some b
 | [],_=>by simp
 | a::t,h=>by
  obtain⟨cs,rfl,hl⟩:=h 0 a rfl;obtain⟨h1,h2⟩:=BP he (l:=t) (fun j a ha=>h (j+1) a (by simpa using ha));refine⟨by simp only[azv,axR,h1,hl,axY,ayI];omega,fun k b hb=>?_⟩;simp only[azv]at hb;rcases ug hb with⟨hk,hb⟩|⟨hk,hb⟩
  .rw [hl]at hk;rw[azy hk,ayN hk];exact⟨cs,rfl,hb⟩
  .rw [hl]at hk hb;obtain⟨cs',h3,h4⟩:=h2 _ b hb;have e1:k/e=(k-e)/e+1:=by rw[<- Nat.add_div_right _ he,Nat.sub_add_cancel hk]
   have e2:k%e=(k-e)%e:=by rw[<- Nat.add_mod_right (k-e) e,Nat.sub_add_cancel hk]
   rw[e1,e2];exact⟨cs',by simpa using h3,h4⟩
def OL{K:Kx}{T:Nat->Nat->Prop}{p:AV}{r:Nat->Option Value}(h:iZ K T p r):sH K T (cellsOf p) r/\(cellsOf p).length=aV p:=by
 cases p<;>simp only[iZ,GP]at h<;>try (exact h.elim)
 case pn=>exact⟨fun j a ha=>by simp[cellsOf]at ha,by simp[cellsOf,aV,ah]⟩
 case pb l=>
  refine⟨fun j a ha=>?_,by simp[cellsOf,aV,ah,aS]⟩;simp only[cellsOf,axP]at ha;cases hb:l[j]? with
  | none=>rw[hb]at ha;cases ha
  | some b=>
   rw[hb]at ha;simp only[axM,axH]at ha;subst ha;exact⟨_,h j b hb,rfl,by simp[qP,aU,RV]⟩
 case pi k l=>
  refine⟨fun j a ha=>?_,by simp[cellsOf,aV,ah,aS]⟩;simp only[cellsOf,axP]at ha;cases hb:l[j]? with
  | none=>rw[hb]at ha;cases ha
  | some b=>
   rw[hb]at ha;simp only[axM,axH]at ha;subst ha;exact⟨_,h j b hb,rfl,by simp[aU,RV]⟩
 case pc l=>exact⟨h,by simp[cellsOf,aV,ah,aS]⟩
 case pr e l=>
  obtain⟨h1,h2⟩:=BP h.1 (fun j a ha=>let ⟨cs,h3,h4,_⟩:=h.2 j a ha;⟨cs,h3,h4⟩);refine⟨fun j a ha=>?_,by simp only[cellsOf,aV,ah,aS];exact h1⟩;obtain⟨cs,h3,h4⟩:=h2 j a ha;obtain⟨cs',h5,h6,h7⟩:=h.2 _ _ h3;cases h5;have:=h7 _ _ h4
  rwa [ayS,Nat.div_add_mod]at this
def nD{K:Kx}{T:Nat->Nat->Prop}{a:AV}{v:Value}(h:aF K T a v)(hs:scalars (eF a)=true) :
 sH K T (eF a) (fun j=>v.cells[j]?)/\v.cells.size=(eF a).length:=by
 cases a
 case agg p=>
  simp only[aF,aK]at h;obtain⟨cs,rfl,h1,h2⟩:=h;obtain⟨h3,h4⟩:=OL h2;exact⟨h3,h1.trans h4.symm⟩
 all_goals
  simp only[eF,scalars,aAe]at hs;have hs':=hs;have h1:=aU.YU hs' h;have h2:=aU.cell hs' h1;have h3:v.cells=#[v]:=by cases v<;>first|rfl|(simp[Value.oneCell']at h2)
  rw[h3];refine⟨fun j a ha=>?_,by simp[eF]⟩;simp only[eF]at ha;cases j with
  | zero=>simp only[ayf,axH]at ha;subst ha;exact⟨v,rfl,h2,h1⟩
  | succ j=>simp at ha
def zo{zero:Array Value}{n k:Nat}(hk:k<n)(hz:0<zero.size):((Array.range n).map (zero[·%zero.size]!))[k]?=zero[k%zero.size]?:=by
 rw[Array.getElem?_map,Array.getElem?_range,if_pos hk];have:k%zero.size<zero.size:=azS _ hz;simp[this]
def uo:∀ {l:List AV},scalars l=true->∀ a∈l,scalar a=true
 | [],_,a,h=>by simp at h
 | b::t,hs,a,h=>by
  simp only[scalars,ax4]at hs;rcases ax2.1 h with rfl|h
  .exact hs.1
  .exact uo hs.2 a h
def LQ{C:Ctx}{K:Kx}{T:Nat->Nat->Prop}{e:TypeId}{n:Nat}{p:AV}{z:Value}(hz:aF K T (bD C e) z)(h:kF C e n=some p):z.cells.size=sizeT C e:=by
 unfold kF at h;simp only at h;split at h
 .rename_i hc;exact(nD hz hc.2.1).2.trans hc.1
 .cases h
def OM{C:Ctx}{K:Kx}{T:Nat->Nat->Prop}{e:TypeId}{n:Nat}{p:AV}{z:Value}(hz:aF K T (bD C e) z)(h:kF C e n=some p)(hpos:0<sizeT C e)
 {cs:Array Value}(hcs:∀ k,k<n*sizeT C e->cs[k]?=z.cells[k%sizeT C e]?) :
 z.cells.size=sizeT C e/\ah p=n/\aS p=sizeT C e/\ig p=false/\RP K.w (NT K T 0) p (fun j=>cs[j]?):=by
 unfold kF at h;simp only at h;split at h
 .rename_i hc;obtain⟨h1,h2,h3,h4⟩:=hc;obtain⟨h5,h6⟩:=nD hz h2;have hid:∀ a∈eF (bD C e),∀ x,x∉ids a:=fun a ha x hx=>by
   have:=vF ha x hx;rw[azG]at h3;rw[h3]at this;simp at this
  have htg:∀ a∈eF (bD C e),∀ t∈tags a,∀ x,T t x->T 0 x:=fun a ha t ht x hx=>by
   have:=ax5.1 h4 t (iW ha t ht);rw[beq_iff_eq]at this;rw[this]at hx;exact hx
  refine⟨h6.trans h1,?_⟩;have one:∀ a,eF (bD C e)=[a]->sizeT C e=1/\∃ u,z.cells[0]?=some u/\u.oneCell'=true/\RV K.w (NT K T 0) a u:=by intro a ha;rw[ha]at h1 h5 hid htg;obtain⟨u,h7,h8,h9⟩:=h5 0 a rfl;exact⟨h1.symm,u,h7,h8,h9.rv (fun x=>hid a (by simp) x) (fun t ht=>htg a (by simp) t ht)⟩
  have rep:∀ {α:Type} {a b:α} {j:Nat},(List.replicate n a)[j]?=some b->j<n/\b=a:=by
   intro α a b j hj;rw[List.getElem?_replicate]at hj;split at hj
   .exact ⟨by assumption,by simpa using hj.symm⟩
   .cases hj
  split at h
  .rename_i heq;obtain⟨h7,u,h8,h9,h10⟩:=one _ heq;simp only[axH]at h;subst h;refine⟨by simp[ah],by simp[aS,h7],rfl,?_⟩;simp only[RP];intro j b hb;obtain⟨hj,rfl⟩:=rep hb;rw[hcs j (by rw[h7];omega),h7,Nat.mod_one,h8];simp only[RV]at h10;rw[h10];rfl
  .rename_i k k' m _ _ heq;obtain⟨h7,u,h8,h9,h10⟩:=one _ heq;split at h
   .rename_i hk;subst hk;simp only[axH]at h;subst h;refine⟨by simp[ah],by simp[aS,h7],rfl,?_⟩;simp only[RP];intro j b hb;obtain⟨hj,rfl⟩:=rep hb;rw[hcs j (by rw[h7];omega),h7,Nat.mod_one,h8];simp only[RV]at h10;rw[h10]
   .cases h
  .cases h
  iterate 2
   simp only[axH]at h;subst h;refine⟨by simp[ah],by simp[aS],rfl,jE.2 ⟨hpos,fun j a ha=>?_⟩⟩;obtain⟨hj,rfl⟩:=rep ha;refine⟨_,rfl,h1,fun k b hb=>?_⟩;have hk:k<sizeT C e:=by have:=(axK.1 hb).1;omega
   obtain⟨u,h7,h8,h9⟩:=h5 k b hb;have hm:=axT hb;refine⟨u,?_,h8,h9.rv (fun x=>hid b hm x) (fun t ht=>htg b hm t ht)⟩;have hle:j*sizeT C e+sizeT C e<=n*sizeT C e:=by rw[<- azs];exact ayi _ hj
   show cs[j*sizeT C e+k]?=some u;rw[hcs (j*sizeT C e+k) (by omega),ayS,Nat.mul_add_mod,ayN hk];exact h7
  .obtain ⟨h7,u,h8,h9,h10⟩:=one _ (by assumption);simp only[axH]at h;subst h;refine⟨by simp[ah],by simp[aS,h7],rfl,jE.2 fun j b hb=>?_⟩;obtain⟨hj,rfl⟩:=rep hb;exact⟨u,by rw[hcs j (by rw[h7];omega),h7,Nat.mod_one,h8],h9,h10⟩
  .cases h
 .cases h
def wrap64{n:Int}(h0:0<=n)(h1:n<=9223372036854775807):IntKind.i64.wrap n=n:=by
 simp only[IntKind.wrap,IntKind.signed,IntKind.bits];simp;omega
def xU{C:Ctx}{K:Kx}{T:Nat->Nat->Prop}(hI:Inv C K T){t:TypeId}{l c r:AV}{vl vc:Value}{H':Heap}(hl:aF K T l vl)(hc:aF K T c vc)
 (h:fP C K.H t l c=some (r,H')) :
 ∃ u w' μ',(Instr.makeSlice t vl vc).run C.P K.w=.ok u w'/\Inv C ⟨μ',H',w'⟩ T/\Evo T K.H.length K ⟨μ',H',w'⟩/\aF ⟨μ',H',w'⟩ T r u/\∀ b,b<K.w.heap.size->w'.heap[b]?=K.w.heap[b]?:=by
 unfold fP at h;split at h
 .rename_i e l c hu;have hu':=bf hu (by simp);simp only[aF,aK,aU,RV]at hl hc;subst hl;subst hc;split at h
  .rename_i hcd;obtain⟨h1,h2,h3,h4,h5⟩:=hcd;cases hr:kF C e l.toNat with
   | none=>rw[hr]at h;cases h
   | some p=>
    rw[hr]at h;simp only[axM,axH,axJ]at h;obtain⟨rfl,rfl⟩:=h;have hne:bD C e≠.top:=by intro h0;unfold kF at hr;simp only[h0,eF,scalars,scalar]at hr;simp at hr
    obtain⟨z,_,hzv,i,hi,hzi⟩:=yT (K:=K) (T:=T) rfl hne;have hsz:i.size=sizeT C e:=by simp[sizeT,hi]
    have hby:i.bytes=bH C e:=by simp[bH,hi]
    have hzs:=LQ hzv hr;have axD:(bH C e:Int)*c<=281474976710656:=by omega
    have n1:¬ (c<0):=by omega
    have n2:¬ (281474976710656<(i.bytes:Int)*c):=by rw[hby];omega
    have n3:¬ (l<0):=by omega
    have n4:¬ (c<l):=by omega
    have wl:=wrap64 h1 (by omega);have wc:=wrap64 (show 0<=c by omega) h3;have n5:¬ (140737488355328<c.toNat * i.bytes):=by
     have:(c.toNat:Int)*(bH C e:Int)<=140737488355328:=by rw[Int.toNat_of_nonneg (by omega),Int.mul_comm];exact h4
     rw[hby];omega
    obtain⟨cs,hcs,hcz,hrun⟩:∃ cs:Array Value,(∀ k,k<c.toNat * sizeT C e->cs[k]?=z.cells[k % sizeT C e]?)/\cs.size=c.toNat * sizeT C e /\
     (Instr.makeSlice t (.int .i64 l) (.int .i64 c)).run C.P K.w=.ok (.slice (some ⟨K.w.heap.size,0,none⟩) l.toNat c.toNat) (K.w.alloc (.cells cs e)):=by
     by_cases hn:c.toNat * i.size=0
     .refine ⟨#[],fun k hk=>by rw[<- hsz,hn]at hk;omega,by rw[<- hsz,hn];rfl,?_⟩;simp[Instr.makeSlice,bg hu',asInt,asIntOf,typeInfo,hi,sizeOf,wl,wc,n1,n2,n3,n4,hn,newRow,askRoom,roomBytes];refine congrArg (fun x=>K.w.alloc (Obj.cells x e)) (azP (by simp))
     .refine ⟨(Array.range (c.toNat * i.size)).map (z.cells[· % z.cells.size]!),fun k hk=>?_,by simp[hsz],?_⟩
      .rw [zo (by rw[hsz];exact hk) (by rw[hzs];exact h5),hzs]
      .simp [Instr.makeSlice,bg hu',asInt,asIntOf,typeInfo,hi,sizeOf,zeroValue,hzi,wl,wc,n1,n2,n3,n4,hn,newRow,askRoom,roomBytes]
    have hle:l.toNat<=c.toNat:=by omega
    have hle':=ayi (sizeT C e) hle;obtain⟨_,p1,p2,p3,p4⟩:=OM hzv hr h5 (cs:=cs) (fun k hk=>hcs k (by omega));obtain⟨μ',i1,i2,i3⟩:=pushRow (T:=T) (w':=K.w.alloc (.cells cs e)) (cs:=cs) (E:=e) (cap:=c.toNat) hI (rowOf p (some c.toNat) 1) rfl rfl (fun h=>by cases h) p3 (by simp) rfl rfl rfl
     (lC _ _) (fun b hb=>alloc_old _ _ hb) (by simp only[rowOf];omega) (by simp only[rowOf];rw[p2,hcz];exact axO _) (by simp only[rowOf];omega) (fun c' hc'=>by simpa[rowOf]using hc'.symm)
     (by unfold fZ;simp only[rowOf,axZ,if_false];exact p4)
    refine⟨_,_,μ',hrun,i1,i2,?_,fun b hb=>alloc_old _ _ hb⟩;simp only[rowOf,p1]at i3;exact i3
  .cases h
 .cases h
def II{C:Ctx}{K:Kx}{T:Nat->Nat->Prop}(hI:Inv C K T){t:TypeId}{l c r:AV}{vl vc:Value}{H':Heap}(hl:aF K T l vl)(hc:aF K T c vc)
 (h:fP C K.H t l c=some (r,H')) :
 ∃ u w' μ',(Instr.makeSlice t vl vc).run C.P K.w=.ok u w'/\Inv C ⟨μ',H',w'⟩ T/\Evo T K.H.length K ⟨μ',H',w'⟩/\aF ⟨μ',H',w'⟩ T r u:=by
 obtain⟨u,w',μ',h1,h2,h3,h4,_⟩:=xU hI hl hc h;exact⟨u,w',μ',h1,h2,h3,h4⟩
def foldl_set(off:Nat):∀ (l:List Value) (i:Nat) (cells:Array Value),off+i+l.length<=cells.size ->
 ((l.zipIdx i).foldl (fun(cs:Array Value) (x:Value×Nat)=>cs.setIfInBounds (off+x.2) x.1) cells).size=cells.size /\
 ∀ k,((l.zipIdx i).foldl (fun(cs:Array Value) (x:Value×Nat)=>cs.setIfInBounds (off+x.2) x.1) cells)[k]?=if off+i<=k/\k<off+i+l.length then l[k-(off+i)]? else cells[k]?
 | [],i,cells,h=>by
  refine⟨rfl,fun k=>?_⟩;rw[if_neg (by simp only[ax3];omega)];rfl
 | a::t,i,cells,h=>by
  simp only[axY]at h;obtain⟨h1,h2⟩:=foldl_set off t (i+1) (cells.setIfInBounds (off+i) a) (by simp;omega);simp only[List.zipIdx_cons,azQ];refine⟨h1.trans (by simp),fun k=>?_⟩;rw[h2 k];simp only[axY];by_cases hk:off+i=k
  .subst hk;rw[if_neg (by omega),if_pos (by omega)];rw[Array.getElem?_setIfInBounds];simp;omega
  .rw [azN hk];by_cases hk2:off+(i+1)<=k/\k<off+(i+1)+t.length
   .rw [if_pos hk2,if_pos (by omega)];rw[show k-(off+i)=(k-(off+(i+1)))+1 by omega];simp
   .rw [if_neg hk2,if_neg (by omega)]
def JI{off:Nat}{v:Value}{cells:Array Value}(h:off+v.cells.size<=cells.size) :
 (v.cells.zipIdx.foldl (fun cs (x:Value×Nat)=>cs.setIfInBounds (off+x.2) x.1) cells).size=cells.size /\
 ∀ k,(v.cells.zipIdx.foldl (fun cs (x:Value×Nat)=>cs.setIfInBounds (off+x.2) x.1) cells)[k]?=if off<=k/\k<off+v.cells.size then v.cells[k-off]? else cells[k]?:=by
 rw[<- Array.foldl_toList,Array.toList_zipIdx];have:=foldl_set off v.cells.toList 0 cells (by simpa using h);simpa using this
def JJ(K:Kx)(T:Nat->Nat->Prop)(place:Nat->Option (Nat×Nat)):List (Nat×Nat×AV)->List (Nat×Value)->Prop
 | [],[]=>True
 | (off,size,a)::r,(i,v)::s=>place i=some (off,size)/\aF K T a v/\JJ K T place r s
 | _,_=>False
def LU{K:Kx}{T:Nat->Nat->Prop}{place:Nat->Option (Nat×Nat)}:∀ {ps:List (Nat×Nat×AV)} {vs:List (Nat×Value)} {c c':List AV} {cells:Array Value},
 JJ K T place ps vs->sH K T c (fun j=>cells[j]?)->c.length=cells.size->ng c ps=some c' ->
 ∃ cells':Array Value,Instr.fill place cells vs=some cells'/\sH K T c' (fun j=>cells'[j]?)/\c'.length=cells'.size
 | [],[],c,c',cells,_,hc,hl,h=>by
  simp only[ng,axH]at h;subst h;exact⟨cells,rfl,hc,hl⟩
 | (off,size,a)::r,(i,v)::s,c,c',cells,hp,hc,hl,h=>by
  obtain⟨h1,h2,h3⟩:=hp;simp only[ng]at h;split at h
  .rename_i hd;obtain⟨e1,e2,e3⟩:=hd;obtain⟨h4,h5⟩:=nD h2 e3;have hle:off+v.cells.size<=cells.size:=by omega
   obtain⟨h6,h7⟩:=JI hle;have aiU:off+(eF a).length<=c.length:=by omega
   obtain⟨cells',h8,h9,h10⟩:=LU (c:=splice c off (eF a)) h3 (cells:=v.cells.zipIdx.foldl (fun cs (x:Value×Nat)=>cs.setIfInBounds (off+x.2) x.1) cells) (fun j b hb=>by
    simp only;rw[h7 j,h5];rw[Ac aiU]at hb;split at hb
    .rename_i hj;rw[if_pos hj];exact h4 _ b hb
    .rename_i hj;rw[if_neg hj];exact hc _ b hb) (by rw[Ad aiU,h6];exact hl) h
   refine⟨cells',?_,h9,h10⟩;simp only[Instr.fill,h1];rw[if_neg (by simp;omega)];exact h8
  .cases h
 | [],_::_,_,_,_,hp,_,_,_=>by simp[JJ]at hp
 | _::_,[],_,_,_,hp,_,_,_=>by simp[JJ]at hp
def jF(K:Kx)(T:Nat->Nat->Prop):List (Nat×AV)->List (Nat×Value)->Prop
 | [],[]=>True
 | (i,a)::r,(j,v)::s=>i=j/\aF K T a v/\jF K T r s
 | _,_=>False
def HY{C:Ctx}{t:TypeId}(h:known C t=true):∃ i,C.P.info? t=some i/\i.size=sizeT C t:=by
 unfold known at h;obtain⟨i,hi⟩:=ayn.1 h;exact⟨i,hi,by simp[sizeT,hi]⟩
def VE{C:Ctx}{w:World}{t:TypeId}(h:known C t=true):(sizeOf t).run C.P w=.ok (sizeT C t) w:=by
 obtain⟨i,hi,hs⟩:=HY h;simp[sizeOf,typeInfo,hi,hs]
def run_places{C:Ctx}{w:World}:∀ (fs:List Field),fs.all (fun f=>known C f.type)=true ->
 (fs.mapM fun(f:Field)=>do pure (f.offset,<- sizeOf f.type)).run C.P w=.ok (fs.map fun f=>(f.offset,sizeT C f.type)) w
 | [],_=>by simp[List.mapM_nil]
 | f::r,h=>by
  simp only[azg,ax4]at h;have hs:=VE (w:=w) h.1;have ih:=run_places (w:=w) r h.2;simp only[List.mapM_cons,Sem.run_bind,hs,ih,Result.andThen_ok,Sem.run_pure,ax9]
def H6{C:Ctx}{K:Kx}{T:Nat->Nat->Prop}{fs:List Field}:∀ {parts:List (Nat×AV)} {vs:List (Nat×Value)} {ps:List (Nat×Nat×AV)},jF K T parts vs->vT C fs parts=some ps ->
 JJ K T ((fs.map fun f=>(f.offset,sizeT C f.type)).toArray[·]?) ps vs
 | [],[],ps,_,h=>by simp only[vT,axH]at h;subst h;trivial
 | (i,a)::r,(j,v)::s,ps,hp,h=>by
  obtain⟨rfl,h1,h2⟩:=hp;simp only[vT]at h;split at h
  .rename_i f hf;cases hr:vT C fs r with
   | none=>rw[hr]at h;cases h
   | some q=>
    rw[hr]at h;simp only[axM,axH]at h;subst h;exact⟨by simp[hf],h1,H6 h2 hr⟩
  .cases h
 | [],_::_,_,hp,_=>by simp[jF]at hp
 | _::_,[],_,hp,_=>by simp[jF]at hp
def H7{K:Kx}{T:Nat->Nat->Prop}{n:Nat}:∀ {parts:List (Nat×AV)} {vs:List (Nat×Value)},jF K T parts vs ->
 JJ K T (fun i=>some (i*n,n)) (parts.map fun(i,v)=>(i*n,n,v)) vs
 | [],[],_=>by trivial
 | (i,a)::r,(j,v)::s,hp=>by
  obtain⟨rfl,h1,h2⟩:=hp;exact⟨rfl,h1,H7 h2⟩
 | [],_::_,hp=>by simp[jF]at hp
 | _::_,[],hp=>by simp[jF]at hp
def VF{C:Ctx}{K:Kx}{T:Nat->Nat->Prop}{t:TypeId}{parts:List (Nat×AV)}{vs:Array (Nat×Value)}{x:AV}(hp:jF K T parts vs.toList)(h:lH C t parts=some x) :
 ∃ u,(Instr.build t vs).run C.P K.w=.ok u K.w/\aF K T x u:=by
 unfold lH at h;split at h
 .rename_i z hz;obtain⟨zv,hzr,hzv,_⟩:=yT (K:=K) (T:=T) (p:=.agg z) hz (by simp);split at h
  .rename_i hsc;obtain⟨hc1,hc2⟩:=nD hzv hsc;have fin:∀ {c:List AV} {cells:Array Value},sH K T c (fun j=>cells[j]?)->c.length=cells.size->(nV C t c).map AV.agg=some x->aF K T x (.agg cells):=by
    intro c cells h1 h2 h3;cases hm:nV C t c with
    | none=>rw[hm]at h3;cases h3
    | some p=>
     rw[hm]at h3;simp only[axM,axH]at h3;subst h3;obtain⟨h4,h5⟩:=yL h1 hm;simp only[aF,aK];exact⟨cells,rfl,by omega,h4⟩
   split at h
   .rename_i fs hu;have hu':=bf hu (by simp);split at h
    .rename_i hk;cases hq:vT C fs.toList parts with
     | none=>rw[hq]at h;cases h
     | some ps=>
      rw[hq]at h;simp only[ayY]at h;cases hf:ng (cellsOf z) ps with
      | none=>rw[hf]at h;cases h
      | some c=>
       rw[hf]at h;simp only[ayY]at h;obtain⟨cells,h1,h2,h3⟩:=LU (H6 hp hq) hc1 hc2.symm hf;refine⟨_,?_,fin h2 h3 h⟩;have hpl:=run_places (C:=C) (w:=K.w) fs.toList hk;simp only[Instr.build,Sem.run_bind,hzr,Result.andThen_ok,bg hu',Array.mapM_eq_mapM_toList,Sem.run_map,hpl];have h1':Instr.fill (fun x=>(List.map (fun f=>(f.offset,sizeT C f.type)) fs.toList).toArray[x]?) zv.cells vs.toList=some cells:=h1;simp only[h1',Sem.run_pure]
    .cases h
   .rename_i n e hu;have hu':=bf hu (by simp);split at h
    .rename_i hk;obtain⟨i,hi,his⟩:=HY hk;cases hf:ng (cellsOf z) (parts.map fun(i,v)=>(i*sizeT C e,sizeT C e,v))with
     | none=>rw[hf]at h;cases h
     | some c=>
      rw[hf]at h;simp only[ayY]at h;obtain⟨cells,h1,h2,h3⟩:=LU (H7 hp) hc1 hc2.symm hf;refine⟨_,?_,fin h2 h3 h⟩;simp[Instr.build,hzr,bg hu',sizeOf,typeInfo,hi,his,h1]
    .cases h
   .cases h
  .cases h
 .cases h
def aK.v{K:Kx}{T:Nat->Nat->Prop}{a:AV}{v:Value}(h:aK K T a v):aF K T a v:=by
 cases a<;>first|exact h|(simp[aK,aU,RV]at h;done)
def aF.v1{K:Kx}{T:Nat->Nat->Prop}{a:AV}{v:Value}(h:aF K T a v)(hs:scalars (eF a)=true):aK K T a v:=by
 cases a<;>first|exact h|(simp[eF,scalars,scalar]at hs;done)
def OO(K:Kx)(T:Nat->Nat->Prop)(es:Nat)(l:List AV)(r:Nat->Value)(cells:Array Value):Prop :=
 cells.size=l.length*es/\∀ (j:Nat) (a:AV),l[j]?=some a->aK K T a (r j)/\(r j).cells.size=es/\∀ k,k<es->cells[j*es+k]?=(r j).cells[k]?
def Eu{K:Kx}{T:Nat->Nat->Prop}{es:Nat}:∀ {parts:List (Nat×AV)} {vs:List (Nat×Value)} {l l':List AV} {r:Nat->Value} {cells:Array Value},
 jF K T parts vs->OO K T es l r cells->iY es l parts=some l' ->
 ∃ (r':Nat->Value) (cells':Array Value),Instr.fill (fun i=>some (i*es,es)) cells vs=some cells'/\OO K T es l' r' cells'/\l'.length=l.length
 | [],[],l,l',r,cells,_,hE,h=>by
  simp only[iY,axH]at h;subst h;exact⟨r,cells,rfl,hE,rfl⟩
 | (i,a)::ps,(j,v)::s,l,l',r,cells,hp,hE,h=>by
  obtain⟨rfl,h1,h2⟩:=hp;simp only[iY]at h;split at h
  .rename_i hc;obtain⟨c1,c2,c3⟩:=hc;obtain⟨h3,h4⟩:=nD h1 c3;have hle:i*es+es<=l.length*es:=by rw[<- azs];exact ayi _ c1
   have hv:v.cells.size=es:=h4.trans c2;obtain⟨h5,h6⟩:=JI (off:=i*es) (v:=v) (cells:=cells) (by rw[hv,hE.1];exact hle);obtain⟨r',cells',h7,h8,h9⟩:=Eu (l:=l.set i a) (r:=fun k=>if k=i then v else r k) (cells:=v.cells.zipIdx.foldl (fun cs (x:Value×Nat)=>cs.setIfInBounds (i*es+x.2) x.1) cells) h2 (by
    refine⟨by rw[h5,hE.1];simp,fun j b hb=>?_⟩;rcases qp hb with⟨e,rfl,hj⟩|⟨e,hb⟩
    .subst e;simp only[if_true];refine⟨h1.v1 c3,hv,fun k hk=>?_⟩;rw[h6,if_pos (by omega)];congr 1;omega
    .simp only[if_neg (ax6 e)];obtain⟨e1,e2,e3⟩:=hE.2 j b hb;refine⟨e1,e2,fun k hk=>?_⟩;rw[h6,if_neg,e3 k hk];rintro⟨g1,g2⟩;rcases Nat.lt_or_gt_of_ne e with e|e
     .have:=ayi es (show i+1<=j from e);rw[ayI]at this;omega
     .have:=ayi es (show j+1<=i from e);rw[ayI]at this;omega) h
   refine⟨r',cells',?_,h8,h9.trans (by simp)⟩;have hsz:=hE.1;simp only[Instr.fill];rw[if_neg (by simp;omega)];exact h7
  .cases h
 | [],_::_,_,_,_,_,hp,_,_=>by simp[jF]at hp
 | _::_,[],_,_,_,_,hp,_,_=>by simp[jF]at hp
def Ew{C:Ctx}{T:Nat->Nat->Prop}:∀ {l l':List AV} {K:Kx} {H':Heap} {r:Nat->Value},Inv C K T->(∀ (j:Nat) (a:AV),l[j]?=some a->aK K T a (r j))->lU K.H l=some (l',H') ->
 Inv C ⟨K.μ,H',K.w⟩ T/\Evo T K.H.length K ⟨K.μ,H',K.w⟩/\H'.length=K.H.length/\l'.length=l.length/\∀ (j:Nat) (a:AV),l'[j]?=some a->aK ⟨K.μ,H',K.w⟩ T a (r j)
 | [],l',K,H',r,hI,hr,h=>by
  simp only[lU,axH,axJ]at h;obtain⟨rfl,rfl⟩:=h;exact⟨hI,Evo.refl T K (axO _),rfl,rfl,by simp⟩
 | a::t,l',K,H',r,hI,hr,h=>by
  simp only[lU]at h;split at h
  .rename_i a' H1 h1;obtain⟨i1,e1,n1,s1⟩:=Hw hI (hr 0 a rfl) h1;split at h
   .rename_i t' H2 h2;simp only[axH,axJ]at h;obtain⟨rfl,rfl⟩:=h;obtain⟨i2,e2,n2,m2,s2⟩:=Ew (K:=⟨K.μ,H1,K.w⟩) (r:=fun j=>r (j+1)) i1 (fun j b hb=>aK.evo e1 (axO _) (hr (j+1) b (by simpa using hb))) h2;refine⟨i2,Evo.trans e1 e2 (by show K.H.length<=H1.length;omega),n2.trans n1,by simp[m2],fun j b hb=>?_⟩;cases j with
    | zero=>simp at hb;subst hb;exact aK.evo e2 (axO _) s1
    | succ j=>exact s2 j b (by simpa using hb)
   .cases h
  .cases h
def JK(k:IntKind):∀ l:List Int,aC (l.map (.int k))=[]
 | []=>rfl
 | _::r=>by simp[aC,ids,JK k r]
def H8(k:IntKind):∀ l:List Int,aW (l.map (.int k))=[]
 | []=>rfl
 | _::r=>by simp[aW,tags,H8 k r]
def Ey:∀ l:List UInt8,aC (l.map qP)=[]
 | []=>rfl
 | _::r=>by simp[aC,ids,qP,Ey r]
def BQ:∀ l:List UInt8,aW (l.map qP)=[]
 | []=>rfl
 | _::r=>by simp[aW,tags,qP,BQ r]
def LV{p:AV}{r:List AV}(h:sG p=some r):aC r=ids p/\aW r=tags p:=by
 cases p<;>simp only[sG,reduceCtorEq,axH]at h<;>subst h
 case pb l=>exact⟨Ey l,BQ l⟩
 case pi k l=>exact⟨JK k l,H8 k l⟩
 case pc l=>exact⟨rfl,rfl⟩
def LW{K:Kx}{T:Nat->Nat->Prop}{p:AV}{r:List AV}{f:Nat->Option Value}(h:sG p=some r)(hp:iZ K T p f):iZ K T (.pc r) f:=by
 cases p<;>simp only[sG,reduceCtorEq,axH]at h<;>subst h<;>simp only[iZ,GP]at hp ⊢
 case pb l=>
  intro j a ha;rw[axP]at ha;cases hb:l[j]? with
  | none=>rw[hb]at ha;cases ha
  | some b=>
   rw[hb]at ha;simp only[axM,axH]at ha;subst ha;exact⟨_,hp j b hb,rfl,aU.xO _ _ _ _⟩
 case pi k l=>
  intro j a ha;rw[axP]at ha;cases hb:l[j]? with
  | none=>rw[hb]at ha;cases ha
  | some b=>
   rw[hb]at ha;simp only[axM,axH]at ha;subst ha;exact⟨_,hp j b hb,rfl,aU.xO _ _ _ _⟩
 case pc l=>exact hp
def Ez{e:Nat}:∀ {l rows:List AV},uG e l=some rows->rows.length=l.length/\aC rows=aC l/\aW rows=aW l /\
 ∀ (j:Nat) (a:AV),rows[j]?=some a->∃ r p,a=.pc r/\r.length=e/\scalars r=true/\l[j]?=some (.agg p)/\sG p=some r
 | [],rows,h=>by simp only[uG,axH]at h;subst h;simp
 | a::t,rows,h=>by
  unfold uG at h;split at h
  .rename_i heq;simp at heq
  .rename_i p t' heq;simp only[ay3]at heq;obtain⟨rfl,rfl⟩:=heq;split at h
   .rename_i r hrc;split at h
    .rename_i hc;cases hr:uG e t with
     | none=>rw[hr]at h;cases h
     | some q=>
      rw[hr]at h;simp only[axM,axH]at h;subst h;obtain⟨h1,h2,h3,h4⟩:=Ez hr;obtain⟨i1,i2⟩:=LV hrc;refine⟨by simp[h1],by simp[aC,ids,h2,i1],by simp[aW,tags,h3,i2],fun j b hb=>?_⟩;cases j with
      | zero=>simp at hb;subst hb;exact⟨r,p,rfl,hc.1,hc.2,rfl,hrc⟩
      | succ j=>simpa using h4 j b (by simpa using hb)
    .cases h
   .cases h
  .cases h
def cells_one{K:Kx}{T:Nat->Nat->Prop}{a:AV}{v:Value}(h:aK K T a v)(hs:scalar a=true):v.cells=#[v]/\v.oneCell'=true/\aU K T a v:=by
 have h1:=aU.YU hs h.v;have h2:=aU.cell hs h1;refine⟨?_,h2,h1⟩;cases v<;>first|rfl|(simp[Value.oneCell']at h2)
def OO.one{K:Kx}{T:Nat->Nat->Prop}{es:Nat}{l:List AV}{r:Nat->Value}{cells:Array Value}(hE:OO K T es l r cells){j:Nat}{a:AV}(ha:l[j]?=some a)(hs:scalar a=true) :
 es=1/\∃ v,cells[j]?=some v/\v.oneCell'=true/\aU K T a v:=by
 obtain⟨h1,h2,h3⟩:=hE.2 j a ha;obtain⟨h4,h5,h6⟩:=cells_one h1 hs;have he:es=1:=by rw[<- h2,h4];rfl
 subst he;refine⟨rfl,r j,?_,h5,h6⟩;have:=h3 0 (by omega);rw[h4]at this;simpa using this
def JL{C:Ctx}{K:Kx}{T:Nat->Nat->Prop}{e:TypeId}{l:List AV}{r:Nat->Value}{cells:Array Value}{p:AV}(hE:OO K T (sizeT C e) l r cells)(hpos:0<sizeT C e)(h:mkRow C e l=some p) :
 iZ K T p (fun j=>cells[j]?)/\ah p=l.length/\ah p*aS p<=cells.size/\(∀ x∈ids p,x∈aC l)/\(∀ x∈tags p,x∈aW l):=by
 have flat:∀ {p:AV},ah p=l.length->aS p=1->(∀ (j:Nat) (a:AV),l[j]?=some a->sizeT C e=1)->ah p*aS p<=cells.size:=by
  intro p h1 h2 h3;rw[h1,h2,hE.1];cases l with
  | nil=>simp
  | cons a t=>rw[h3 0 a rfl];exact axO _
 unfold mkRow at h;have ints:∀ {k:IntKind},(uH k l).map (AV.pi k)=some p->iZ K T p (fun j=>cells[j]?)/\ah p=l.length/\ah p*aS p<=cells.size/\(∀ x∈ids p,x∈aC l)/\(∀ x∈tags p,x∈aW l):=by
  intro k h;cases hb:uH k l with
  | none=>rw[hb]at h;cases h
  | some bs=>
   rw[hb]at h;simp only[axM,axH]at h;subst h;obtain⟨h1,h2⟩:=xJ hb;refine⟨fun j b hj=>?_,by simpa[ah]using h1,flat (by simpa[ah]using h1) rfl (fun j a ha=>?_),by simp[ids],by simp[tags]⟩
   .obtain ⟨_,v,h4,_,h6⟩:=hE.one (h2 j b hj) rfl;simp only[aU,RV]at h6;show cells[j]?=_;rw[h4,h6]
   .have hj:=(axK.1 ha).1;exact(hE.one (h2 j bs[j] (axI (by omega))) rfl).1
 split at h
 .cases hb:jJ l with
  | none=>rw[hb]at h;cases h
  | some bs=>
   rw[hb]at h;simp only[axM,axH]at h;subst h;obtain⟨h1,h2⟩:=vX hb;refine⟨fun j b hj=>?_,by simpa[ah]using h1,flat (by simpa[ah]using h1) rfl (fun j a ha=>?_),by simp[ids],by simp[tags]⟩
   .obtain ⟨_,v,h4,_,h6⟩:=hE.one (h2 j b hj) rfl;simp only[aU,RV]at h6;show cells[j]?=_;rw[h4,h6]
   .have hj:=(axK.1 ha).1;exact(hE.one (h2 j bs[j] (axI (by omega))) rfl).1
 .exact ints h
 iterate 2
  cases hb:uG (sizeT C e) l with
  | none=>rw[hb]at h;cases h
  | some rows=>
   rw[hb]at h;simp only[axM,axH]at h;subst h;obtain⟨h1,h2,h3,h4⟩:=Ez hb;refine⟨⟨hpos,fun j a ha=>?_⟩,by simpa[ah]using h1,by simp only[ah,aS];rw[h1,hE.1];exact axO _,by simp[ids,h2],by simp[tags,h3]⟩;obtain⟨cs,p,rfl,h5,h6,h7,hrc⟩:=h4 j a ha;obtain⟨g1,g2,g3⟩:=hE.2 j _ h7;simp only[aK]at g1;obtain⟨as,g4,g5,g6'⟩:=g1;have g6:=LW hrc g6';simp only[iZ,GP]at g6;refine⟨cs,rfl,h5,fun k b hb=>?_⟩;obtain⟨v,g7,g8,g9⟩:=g6 k b hb;refine⟨v,?_,g8,g9⟩;have hk:k<sizeT C e:=by have:=(axK.1 hb).1;omega
   show cells[j*sizeT C e+k]?=some v;rw[g3 k hk,g4];exact g7
 .split at h
  .rename_i hs;simp only[axH]at h;subst h;refine⟨fun j a ha=>(hE.one ha (uo hs a (axT ha))).2,rfl,flat rfl rfl (fun j a ha=>(hE.one ha (uo hs a (axT ha))).1),by simp[ids],by simp[tags]⟩
  .cases h
def JM{C:Ctx}{K:Kx}{T:Nat->Nat->Prop}(hI:Inv C K T){e:TypeId}{l:List AV}{r:Nat->Value}{cells:Array Value}{x:AV}(hE:OO K T (sizeT C e) l r cells)(hpos:0<sizeT C e)(h:qN C e l=some x)
 (hid:aC l=[]):Inv C ⟨K.μ,K.H,K.w.alloc (.cells cells e)⟩ T/\Evo T K.H.length K ⟨K.μ,K.H,K.w.alloc (.cells cells e)⟩ /\
  aF ⟨K.μ,K.H,K.w.alloc (.cells cells e)⟩ T x (.slice (some ⟨K.w.heap.size,0,none⟩) l.length l.length):=by
 unfold qN at h;split at h
 .rename_i p tg hp ht;simp only[axH]at h;subst h;obtain⟨h1,h2,h3,h4,h5⟩:=JL hE hpos hp;obtain⟨i1,e1⟩:=Inv.world (w':=K.w.alloc (.cells cells e)) hI (by simp) rfl rfl rfl (fun b hb=>.inl (alloc_old _ _ hb));refine⟨i1,e1,?_⟩;simp only[aF,aK,aU,RV];refine⟨_,_,by rw[h2],⟨by omega,fun h=>absurd h (by decide),fun _=>rfl,fun _=>h2.symm⟩,fun a ha hn=>?_⟩;simp only[axH]at ha;subst ha;have hj:=uh hI.mono ht;have hr:GP (RV K.w (NT K T tg)) p (fun j=>cells[j]?):=GP.rv h1 (fun x hx=>by have:=h4 x hx;rw[hid]at this;simp at this) (fun t ht'=>hj t (h5 t ht'));refine⟨rfl,⟨hI.mono _ _ (hI.new _ (axO _)),?_,by simp⟩,?_⟩
  .rintro ⟨o,ob,ho,hR,hb⟩;have:=(hI.own _ ⟨o,ob,ho,hR,hb⟩).1;exact absurd this (Nat.lt_irrefl _)
  .refine jM (fun b hb=>NT.evo e1 hb) p _ _ (fun j u hu=>?_) (jE.2 hr);simp only[World.cell?,lC,ayg];simpa using hu
 .cases h
def run_buildSlice{C:Ctx}{w:World}{t e:TypeId}(hu:C.P.underlying t=some (.slice e)){n:Nat}{vs:Array (Nat×Value)}{z:Value}{cells':Array Value}(hz:(zeroValue e).run C.P w=.ok z w)(hpos:0<sizeT C e)
 (hle:n*sizeT C e<=16777216)(hf:Instr.fill (fun i=>some (i*sizeT C e,sizeT C e)) ((Array.range (n*sizeT C e)).map ((if n*sizeT C e=0 then #[]else z.cells)[·%(if n*sizeT C e=0 then #[]else z.cells).size]!)) vs.toList=some cells') :
 (Instr.buildSlice t n vs).run C.P w=.ok (.slice (some ⟨w.heap.size,0,none⟩) n n) (w.alloc (.cells cells' e)):=by
 have hle':¬ (16777216<n*sizeT C e):=by omega
 by_cases hn:n*sizeT C e=0
 .have e0:∀ f:Nat->Value,(Array.range 0).map f=#[]:=fun f=>azP (by simp);simp only[hn,e0]at hf;simp[Instr.buildSlice,bg hu,iF (show sizeT C e≠0 by omega),hn,newRow,e0,hf]
 .simp only[hn,if_false]at hf;have hn2:¬ (n=0\/sizeT C e=0):=fun h=>hn (by rcases h with h|h<;>simp[h]);simp only[Instr.buildSlice,Sem.run_bind,bg hu,iF (show sizeT C e≠0 by omega),Result.andThen_ok];rw[if_neg (by omega)];simp only[hn,if_false,Sem.run_bind,Sem.run_pure,hz,Result.andThen_ok,hf,newRow];simp
def H9{C:Ctx}{K:Kx}{T:Nat->Nat->Prop}(hI:Inv C K T){t:TypeId}{n:Nat}{parts:List (Nat×AV)}{vs:Array (Nat×Value)}{x:AV}{H':Heap}(hp:jF K T parts vs.toList)
 (h:bT C K.H t n parts=some (x,H')) :
 ∃ u w' μ',(Instr.buildSlice t n vs).run C.P K.w=.ok u w'/\Inv C ⟨μ',H',w'⟩ T/\Evo T K.H.length K ⟨μ',H',w'⟩/\aF ⟨μ',H',w'⟩ T x u:=by
 unfold bT at h;split at h
 .rename_i e hu;have hu':=bf hu (by simp);split at h
  .rename_i hc;obtain⟨hle,hpos,hzl,hzs⟩:=hc;have hne:bD C e≠.top:=by intro h0;rw[h0]at hzs;simp[eF,scalars,scalar]at hzs
   obtain⟨z,hz,hzv,_⟩:=yT (K:=K) (T:=T) rfl hne;obtain⟨_,hz2⟩:=nD hzv hzs;have aiV:z.cells.size=sizeT C e:=hz2.trans hzl;split at h
   .cases h
   .rename_i l hsp;have hE0:OO K T (sizeT C e) (List.replicate n (bD C e)) (fun _=>z) ((Array.range (n*sizeT C e)).map ((if n*sizeT C e=0 then #[]else z.cells)[·%(if n*sizeT C e=0 then #[]else z.cells).size]!)):=by
     refine⟨by simp,fun j a ha=>?_⟩;have hj:j<n:=by have:=(axK.1 ha).1;simpa using this
     have ha':a=bD C e:=by rw[List.getElem?_replicate,if_pos hj]at ha;simpa using ha.symm
     subst ha';refine⟨hzv.v1 hzs,aiV,fun k hk=>?_⟩;have hlt:j*sizeT C e+k<n*sizeT C e:=by have:=ayi (sizeT C e) (show j+1<=n from hj);rw[ayI]at this;omega
     rw[if_neg (by omega),zo hlt (by omega),aiV,ayS,Nat.mul_add_mod,ayN hk]
    obtain⟨r,cells,hf,hE,hlen⟩:=Eu hp hE0 hsp;have hlen':l.length=n:=by simpa using hlen
    have hrun:=run_buildSlice hu' hz hpos hle hf;split at h
    .rename_i hid;cases hl:qN C e l with
     | none=>rw[hl]at h;cases h
     | some v=>
      rw[hl]at h;simp only[axM,axH,axJ]at h;obtain⟨rfl,rfl⟩:=h;obtain⟨i1,e1,v1⟩:=JM hI hE hpos hl (azG.1 hid);rw[hlen']at v1;exact⟨_,_,_,hrun,i1,e1,v1⟩
    .split at h
     .cases h
     .split at h
      .cases h
      .rename_i l' H1 hfr;obtain⟨i2,e2,n2,m2,s2⟩:=Ew (r:=r) hI (fun j a ha=>(hE.2 j a ha).1) hfr;have hE2:OO ⟨K.μ,H1,K.w⟩ T (sizeT C e) l' r cells:=by refine⟨by rw[hE.1,m2],fun j a ha=>⟨s2 j a ha,?_⟩⟩;have hj:=(axK.1 ha).1;exact(hE.2 j l[j] (axI (by omega))).2
       split at h
       .rename_i hid;cases hl:qN C e l' with
        | none=>rw[hl]at h;cases h
        | some v=>
         rw[hl]at h;simp only[axM,axH,axJ]at h;obtain⟨rfl,rfl⟩:=h;obtain⟨i1,e1,v1⟩:=JM i2 hE2 hpos hl (azG.1 hid);rw[m2,hlen']at v1;exact⟨_,_,_,hrun,i1,Evo.trans e2 e1 (by show K.H.length<=H1.length;omega),v1⟩
       .cases hl:mkRow C e l' with
        | none=>rw[hl]at h;cases h
        | some p=>
         rw[hl]at h;simp only[axM,axH,axJ]at h;obtain⟨rfl,rfl⟩:=h;obtain⟨h1,h2,h3,h4,h5⟩:=JL hE2 hpos hl;have h2':ah p=n:=by omega
         obtain⟨hpos',hpm⟩:=h1.pos;obtain⟨μ',g1,g2,g3⟩:=pushRow (K:=⟨K.μ,H1,K.w⟩) (T:=T) (w':=K.w.alloc (.cells cells e)) (cs:=cells) (E:=e) (cap:=n) i2 ⟨p,0,some n,1,true,true,0⟩ rfl rfl (fun h=>by cases h) hpm (by simp) rfl rfl rfl
          (lC _ _) (fun b hb=>alloc_old _ _ hb) (by simp only;omega) (by simp only;rw[<- h2'];exact h3) hpos' (fun c' hc'=>by simpa using hc'.symm)
          (by unfold fZ;simp only[if_true];exact h1)
         refine⟨_,_,μ',hrun,g1,Evo.trans e2 g2 (by show K.H.length<=H1.length;omega),?_⟩;simp only[h2']at g3;exact g3
  .cases h
 .cases h
def fD(K:Kx)(T:Nat->Nat->Prop):List AV->List Value->Prop
 | [],[]=>True
 | a::r,v::s=>aF K T a v/\fD K T r s
 | _,_=>False
def fD.nil{K:Kx}{T:Nat->Nat->Prop}{vs:List Value}(h:fD K T [] vs):vs=[]:=by
 cases vs with
 | nil=>rfl
 | cons=>exact h.elim
def fD.cons{K:Kx}{T:Nat->Nat->Prop}{a:AV}{r:List AV}{vs:List Value}(h:fD K T (a::r) vs):∃ v s,vs=v::s/\aF K T a v/\fD K T r s:=by
 cases vs with
 | nil=>exact h.elim
 | cons v s=>exact⟨v,s,rfl,h⟩
def DU{P:Program}{w:World}{K:Kx}{T:Nat->Nat->Prop}:∀ {l:List AV} {x r:AV} {v:Value} {vs:List Value},aF K T x v->fD K T l vs->∀ b,kP b x l=some r ->
 ∃ u,(vs.foldlM (if b then Builtin.max2 else Builtin.min2) v).run P w=.ok u w/\aF K T r u
 | [],x,r,v,vs,hv,ha,b,h=>by
  rw[ha.nil];unfold kP at h;simp only[axH]at h;subst h;exact⟨v,by simp,hv⟩
 | y::l,x,r,v,vs,hv,ha,b,h=>by
  obtain⟨u,s,rfl,hu,hs⟩:=ha.cons;unfold kP at h;split at h
  .rename_i heq;cases heq
  .rename_i k n k' m t heq;simp only[ay3]at heq;obtain⟨rfl,rfl⟩:=heq;split at h
   .rename_i hk;subst hk;rw[hv.int,hu.int];obtain⟨z,h1,h2⟩:=DU (P:=P) (w:=w) (K:=K) (T:=T) (v:=.int k (if b then(if m>n then m else n)else(if m<n then m else n))) (by simp[aF,aK,aU,RV]) hs b h;refine⟨z,?_,h2⟩;cases b
    .simp only[axZ,if_false]at h1 ⊢;simp only[List.foldlM_cons,Sem.run_bind,Builtin.min2,Sem.run_pure,Result.andThen_ok];exact h1
    .simp only[if_true]at h1 ⊢;simp only[List.foldlM_cons,Sem.run_bind,Builtin.max2,Sem.run_pure,Result.andThen_ok];exact h1
   .cases h
  .cases h
def ZM{C:Ctx}{K:Kx}{T:Nat->Nat->Prop}(hI:Inv C K T){t ty:TypeId}{s x r:AV}{H':Heap}{vs vx:Value}{ts:Array TypeId}{args:Array Value}(hs:aF K T s vs)(hx:aF K T x vx)
 (h:copyV C K.H t s x=some (r,H'))(h0:ts[0]?=some t)(ha0:args[0]?=some vs)(ha1:args[1]?=some vx) :
 ∃ u w',(Builtin.copy_ ts ty args).run C.P K.w=.ok u w'/\Inv C ⟨K.μ,H',w'⟩ T/\Evo T K.H.length K ⟨K.μ,H',w'⟩/\aF ⟨K.μ,H',w'⟩ T r u:=by
 unfold copyV at h;split at h
 .rename_i e hu;have hu':=bf hu (by simp);split at h
  .rename_i o off len g c l tg;split at h
   .rename_i ob hob;split at h
    .rename_i m hm;split at h
     .rename_i hc;obtain⟨jQ,hsz,hok,hle,hpos,hfit⟩:=hc;simp only[axH,axJ]at h;obtain⟨rfl,rfl⟩:=h;obtain⟨d,hd,_⟩:=sJ hok;obtain⟨news,hn1,hn2,hn3,hn4⟩:=TW hI hx (show gJ K.H (.ro c (.pb l) tg)=some (.pb l,kH (.pb l) tg)by simp[gJ,jq]);simp only[aF,aK,aU]at hs;obtain⟨h1,h2⟩:=cZ.1 hob;obtain⟨hpm,ad,cap,rfl,hcap,hpl,had,_,_⟩:=(hs.2.2 ob h1).2 h2;obtain⟨hsh,hcl⟩:=(hI.obj o ob h1).open hpm;have aiW:ah ob.p=m.length:=by rw[hm];rfl
      have hpe:aS ob.p=1:=by rw[hm];rfl
      have hs1:=hsh.1;have hC:(K.μ o).cap≠0:=by omega
      have had:=had (by omega);obtain⟨cur,E,h3,h4,h5,h6⟩:=hcl hC;have hnl:news.length=l.length:=by have:=hn1.2;simpa[ah,aS]using this
      have hle1:(m.take off).length=off:=by simp;omega
      have hp:GP (RV K.w (NT K T ob.tg)) (.pb (m.take off++l++m.drop (off+l.length))) (over (fun j=>cur[(K.μ o).base+j]?) off news):=by
       unfold fZ at h6;rw[if_neg (by rw[jQ];decide),hm]at h6;have hn:=hn1.1;simp only[RP]at h6;simp only[GP]at hn ⊢;intro j b hb;simp only[over];rw[ayq]at hb;by_cases hj:j<off
       .rw [if_neg (by omega)];rw[axL (by omega),azt hj]at hb;exact h6 j b hb
       .rw [axS (by omega),hle1]at hb;by_cases hj2:j<off+l.length
        .rw [if_pos (by omega)];rw[axL (by omega)]at hb;exact hn _ b hb
        .rw [if_neg (by omega)];rw[axS (by omega),ayT]at hb;exact h6 j b (by rw[<- hb];congr 1;omega)
      have hlen:ah (.pb (m.take off++l++m.drop (off+l.length)))=ah ob.p:=by rw[aiW];simp[ah];omega
      have hst:=Inv.store (T:=T) (p':=.pb (m.take off++l++m.drop (off+l.length))) (tg:=ob.tg) (k:=off) (vs:=news) hI hob hpm rfl hlen (by rw[hpe];rfl) (by rw[aiW,hpe];omega) hC h3 h4
       (by unfold fZ;rw[if_neg (by simp only;rw[jQ];decide)];simp only[GP]at hp;simp only[RP];exact hp)
      refine⟨goInt l.length,_,?_,hst.1,hst.2,by simp[aF,aK,aU,RV,goInt]⟩;have hrun:=run_storeCells_at C.P (K.μ o).blk ((K.μ o).base+off) E news 0 cur K.w h3 (by rw[hpe]at h4;omega) hn2;have hf:=hn4 1 (fun _=>rfl) C.P K.w (fun _ _=>rfl);have hlo:=hn3 C.P K.w;have hmin:Nat.min l.length len=l.length:=ayG hle;simp only[ah]at hf hlo;have hso:(sizeOf e).run C.P K.w=.ok 1 K.w:=by rw[run_sizeOf hd,hsz]
      rw[hpe,ayQ]at had;subst had;simp only[ay0]at hrun;simp only[Builtin.copy_,h0,ha0,ha1,Sem.run_bind,bg hu',Result.andThen_ok,hlo,hmin,hso,hf,Sem.run_pure];simp only[Sem.run_bind,hrun,Result.andThen_ok,Sem.run_pure,azC]
     .cases h
    .cases h
   .cases h
  .cases h
 .cases h
def OQ{C:Ctx}{K:Kx}{T:Nat->Nat->Prop}(hI:Inv C K T){b:Builtin}{ts:Array TypeId}{args:List AV}{vs:Array Value}{r:AV}{H':Heap}(ha:fD K T args vs.toList)
 (h:kR C K.H b ts.toList args=some (r,H'))(ty:TypeId)(consts:Array Bool):Res C T K r H' ((builtin b ts ty consts vs).run C.P K.w):=by
 have hts:∀ {t:TypeId} {l:List TypeId},ts.toList=t::l->ts[0]?=some t:=fun h=>by
  rw[<- ayr,h];rfl
 have asA:∀ {t u:TypeId} {l:List TypeId},ts.toList=t::u::l->ts[1]?=some u:=fun h=>by
  rw[<- ayr,h];rfl
 have hvs:∀ {t:Value} {l:List Value},vs.toList=t::l->vs[0]?=some t:=fun h=>by
  rw[<- ayr,h];rfl
 have aiX:∀ {t u:Value} {l:List Value},vs.toList=t::u::l->vs[1]?=some u:=fun h=>by
  rw[<- ayr,h];rfl
 unfold kR at h;split at h
 .rename_i t _ x _ hte;obtain⟨v,s,hv,hx,_⟩:=ha.cons;cases hl:lenV C K.H t x with
  | none=>rw[hl]at h;cases h
  | some n=>
   rw[hl]at h;simp only[axM,axH,axJ]at h;obtain⟨rfl,rfl⟩:=h;have:=abT (ty:=ty) hI hx hl (hts hte) (hvs hv);exact Res.same hI (v:=.int .i64 n) (by simp[builtin,this]) (by simp[aF,aK,aU,RV])
 .rename_i t _ x _ hte;obtain⟨v,s,hv,hx,_⟩:=ha.cons;cases hl:Nl C K.H t x with
  | none=>rw[hl]at h;cases h
  | some n=>
   rw[hl]at h;simp only[axM,axH,axJ]at h;obtain⟨rfl,rfl⟩:=h;have:=abU (ty:=ty) hI hx hl (hts hte) (hvs hv);exact Res.same hI (v:=.int .i64 n) (by simp[builtin,this]) (by simp[aF,aK,aU,RV])
 .rename_i t u _ s x hte;obtain⟨v,s1,hv,hx,h1⟩:=ha.cons;obtain⟨v',s2,rfl,hx',h2⟩:=h1.cons;split at h
  .rename_i hc;obtain⟨u,w',μ',h3,h4,h5,h6⟩:=Rh (ty:=ty) hI hx hx' h (hts hte) (asA hte) hc.1 hc.2 (hvs hv) (aiX hv);simp only[builtin,Sem.run_bind,h3,Result.andThen_ok,Sem.run_pure];exact⟨μ',h4,h5,h6⟩
  .cases h
 .rename_i t _ s x hte;obtain⟨v,s1,hv,hx,h1⟩:=ha.cons;obtain⟨v',s2,rfl,hx',h2⟩:=h1.cons;obtain⟨u,w',h3,h4,h5,h6⟩:=ZM (ty:=ty) hI hx hx' h (hts hte) (hvs hv) (aiX hv);simp only[builtin,Sem.run_bind,h3,Result.andThen_ok,Sem.run_pure];exact⟨K.μ,h4,h5,h6⟩
 .rename_i x l;obtain⟨v,s,hv,hx,h1⟩:=ha.cons;cases hm:kP true x l with
  | none=>rw[hm]at h;cases h
  | some z=>
   rw[hm]at h;simp only[axM,axH,axJ]at h;obtain⟨rfl,rfl⟩:=h;obtain⟨u,h2,h3⟩:=DU (P:=C.P) (w:=K.w) hx h1 true hm;simp only[if_true]at h2;exact Res.same hI (v:=u) (by simp only[builtin,Builtin.max_,hv,Sem.run_bind,h2,Result.andThen_ok,Sem.run_pure]) h3
 .rename_i x l;obtain⟨v,s,hv,hx,h1⟩:=ha.cons;cases hm:kP false x l with
  | none=>rw[hm]at h;cases h
  | some z=>
   rw[hm]at h;simp only[axM,axH,axJ]at h;obtain⟨rfl,rfl⟩:=h;obtain⟨u,h2,h3⟩:=DU (P:=C.P) (w:=K.w) hx h1 false hm;simp only[axZ,if_false]at h2;exact Res.same hI (v:=u) (by simp only[builtin,Builtin.min_,hv,Sem.run_bind,h2,Result.andThen_ok,Sem.run_pure]) h3
 .cases h
end Go.AM
namespace Go.AM
open Go.MapKept
def Ri(a b:List UInt8):((⟨⟨a⟩⟩:ByteArray)==⟨⟨b⟩⟩)=(a==b):=by
 rw[Bool.eq_iff_iff,bytes_beq];simp
def wS(l:List UInt8):Array Value:=(l.map fun b=>Value.int .u8 b.toNat).toArray
def BR(l:List UInt8)(i:Nat):(wS l)[i]?=(l[i]?).map fun b=>Value.int .u8 b.toNat:=by simp[wS]
def aeU(a b:UInt8):((a.toNat:Int)==(b.toNat:Int))=(a==b):=by
 rw[Bool.eq_iff_iff];simp only[beq_iff_eq,Int.natCast_inj];exact UInt8.toNat_inj
def Ia{P:Program}{e:TypeId}(h:P.underlying e=some (.int .u8)):P.plainKey e=true:=by simp[Program.plainKey,h]
def JO{P:Program}{w:World}{e:TypeId}(d:Nat)(he:P.underlying e=some (.int .u8)){a b:List UInt8}(hab:a.length=b.length):∀ (m k:Nat),k+m=a.length ->
 (Op.eqItems (d+1) e 1 (wS a) (wS b) (List.range' k m)).run P w=.ok (a.drop k==b.drop k) w
 | 0,k,h=>by
  rw[List.drop_eq_nil_of_le (by omega),List.drop_eq_nil_of_le (by omega)];simp[Op.eqItems]
 | m+1,k,h=>by
  have h1:k<a.length:=by omega
  have h2:k<b.length:=by omega
  have e1:(part e (wS a) (k*1)).run P w=.ok (Value.int .u8 (a[k]).toNat) w:=run_part_plain w (Ia he) (by rw[ayQ,BR,axI h1];rfl);have e2:(part e (wS b) (k*1)).run P w=.ok (Value.int .u8 (b[k]).toNat) w:=run_part_plain w (Ia he) (by rw[ayQ,BR,axI h2];rfl);rw[azZ];simp only[Op.eqItems,Sem.run_bind,e1,e2,Result.andThen_ok,run_equalIn_int w d e _ _ _ _ he];rw[aeU];have hd:(a.drop k==b.drop k)=(a[k]==b[k]&&a.drop (k+1)==b.drop (k+1)):=by rw[ayz h1,ayz h2];rfl
  rw[hd];cases hq:(a[k]==b[k])with
  | false=>simp
  | true=>
   have:=JO (w:=w) d he hab m (k+1) (by omega);simp[this]
def EO{P:Program}{w:World}{t e:TypeId}{n:Nat}(hu:P.underlying t=some (.array n e))(he:P.underlying e=some (.int .u8))(hs:P.cellsOf e=1){a b:List UInt8}(ha:a.length=n)(hb:b.length=n) :
 (Op.equal t (.agg (wS a)) (.agg (wS b))).run P w=.ok (a==b) w:=by
 obtain⟨i,hi⟩:=xK he;unfold Op.equal;rw[show Op.maxDepth=9999+1 from rfl,run_equalIn_array w 9999 _ _ hu hi,hs,List.range_eq_range'];have:=JO (w:=w) 9998 he (by omega:a.length=b.length) n 0 (by omega);simpa using this
def Ae{P:Program}{w:World}{t e:TypeId}{n:Nat}(hu:P.underlying t=some (.array n e))(he:P.underlying e=some (.int .u8))(hs:P.cellsOf e=1){a:List UInt8}(ha:a.length=n)(em:Bool)(d:Nat) :
 (Instr.checkKey em (d+1+1) t (.agg (wS a))).run P w=.ok () w:=by
 obtain⟨i,hi⟩:=xK he;have key:∀ (f:Nat->PUnit->Sem (ForInStep PUnit)),(∀ i,i<n->(f i PUnit.unit).run P w=.ok (ForInStep.yield PUnit.unit) w)->∀ (m k:Nat),k+m=n->(forIn (List.range' k m) PUnit.unit f).run P w=.ok PUnit.unit w:=by
  intro f hf m;induction m with
  | zero=>intro k _;simp
  | succ m ih=>
   intro k hk;rw[azZ];simp only[List.forIn_cons,Sem.run_bind,hf k (by omega),Result.andThen_ok];exact ih (k+1) (by omega)
 rw[Instr.checkKey];simp only[Sem.run_bind,run_underlying hu,Result.andThen_ok];simp only[Std.Legacy.Range.forIn_eq_forIn_range',Std.Legacy.Range.size,azL,Nat.add_one_sub_one,Nat.div_one];refine(congrArg (fun r=>Result.andThen r fun _ w'=>Sem.run P (pure ()) w') (key _ (fun k hk=>?_) n 0 (by omega))).trans rfl;have h1:k<a.length:=by omega
 have e1:(part e (wS a) (k*1)).run P w=.ok (Value.int .u8 (a[k]).toNat) w:=run_part_plain w (Ia he) (by rw[ayQ,BR,axI h1];rfl);simp only[Sem.run_bind,Go.run_sizeOf w hi,hs,Result.andThen_ok,e1];rw[run_checkKey he (show IsKey (.int .u8) (.int .u8 _) from rfl)];simp only[Result.andThen_ok,Sem.run_pure]
def nJ.agg{l:List UInt8}{v:Value}(h:nJ (.agg (.pb l)) v):v=.agg (wS l):=by
 obtain⟨cs,rfl,rfl⟩:=h;rfl
def VG{k k':AV}{v u:Value}(h:oM k k'=some true)(hk:nJ k v)(hk':nJ k' u):u=v:=by
 unfold oM at h;split at h
 .split at h
  .rename_i e;simp only[axH,beq_iff_eq]at h;subst h;subst e;simp only[nJ]at hk hk';rw[hk,hk']
  .cases h
 .simp only[axH,beq_iff_eq]at h;subst h;simp only[nJ]at hk hk';rw[hk,hk']
 .simp only[axH,beq_iff_eq]at h;subst h;simp only[nJ]at hk hk';rw[hk,hk']
 .split at h
  .simp only[axH,beq_iff_eq]at h;subst h;rw[hk.agg,hk'.agg]
  .cases h
 .cases h
def Entries(K:Kx)(T:Nat->Nat->Prop)(l:List AV)(es:List MapEntry):Prop :=
 es.length=l.length/\∀ (i:Nat) (a:AV),l[i]?=some a->∃ (k v:AV) (e:MapEntry),a=.pc [k,v]/\es[i]?=some e/\nJ k e.key/\aK K T v e.val
def Entries.tail{K:Kx}{T:Nat->Nat->Prop}{a:AV}{l:List AV}{e:MapEntry}{es:List MapEntry}(h:Entries K T (a::l) (e::es)):Entries K T l es :=
 ⟨by simpa using h.1,fun i b hb=>by
  obtain⟨k,v,e',h1,h2,h3⟩:=h.2 (i+1) b (by simpa using hb);exact⟨k,v,e',h1,by simpa using h2,h3⟩⟩
def Entries.head{K:Kx}{T:Nat->Nat->Prop}{a:AV}{l:List AV}{e:MapEntry}{es:List MapEntry}(h:Entries K T (a::l) (e::es)):∃ k v,a=.pc [k,v]/\nJ k e.key/\aK K T v e.val:=by
 obtain⟨k,v,e',h1,h2,h3⟩:=h.2 0 a rfl;simp only[ayf,axH]at h2;subst h2;exact⟨k,v,h1,h3⟩
def wF(l:List AV)(es:List MapEntry)(vk:Value)(i:Nat):Option (Nat×AV)->Option (Nat×Value)->Prop
 | none,none=>True
 | some (j,v),some (j',u)=>j'=j/\i<=j/\∃ e k',es[j-i]?=some e/\e.val=u/\e.key=vk/\l[j-i]?=some (.pc [k',v])
 | _,_=>False
def wF.next{a:AV}{l:List AV}{e:MapEntry}{es:List MapEntry}{vk:Value}{i:Nat}{r:Option (Nat×AV)}{x:Option (Nat×Value)}(h:wF l es vk (i+1) r x):wF (a::l) (e::es) vk i r x:=by
 cases r with
 | none=>cases x with
  | none=>trivial
  | some x=>exact h.elim
 | some r=>cases x with
  | none=>exact h.elim
  | some x=>
   obtain⟨j,v⟩:=r;obtain⟨j',u⟩:=x;obtain⟨h1,h2,e',k',h3,h4,h5,h6⟩:=h;have hj:j-i=(j-(i+1))+1:=by omega
   exact⟨h1,by omega,e',k',by rw[hj];simpa using h3,h4,h5,by rw[hj];simpa using h6⟩
def find_ok{K:Kx}{T:Nat->Nat->Prop}{k:AV}{vk:Value}{F:List MapEntry->Nat->Option (Nat×Value)->Prop}(hk:nJ k vk)
 (hnil:∀ i,F [] i none)(ac5:∀ e es i k',nJ k' e.key->oM k k'=some true->F (e::es) i (some (i,e.val)))
 (hfalse:∀ e es i k' a,nJ k' e.key->oM k k'=some false->F es (i+1) a->F (e::es) i a) :
 ∀ {l:List AV} {es:List MapEntry} {i:Nat} {r:Option (Nat×AV)},Entries K T l es->qO k l i=some r->∃ a,F es i a/\wF l es vk i r a
 | [],es,i,r,hE,h=>by
  have:es=[]:=ayk (by simpa using hE.1);subst this;simp only[qO,axH]at h;subst h;exact⟨none,hnil i,trivial⟩
 | a::l,[],i,r,hE,h=>by
  have:=hE.1;simp at this
 | a::l,e::es,i,r,hE,h=>by
  obtain⟨k',v,rfl,h1,h2⟩:=hE.head;simp only[qO]at h;split at h
  .rename_i hq;simp only[axH]at h;subst h;exact⟨some (i,e.val),ac5 e es i k' h1 hq,rfl,axO _,e,k',by simp,rfl,VG hq hk h1,by simp⟩
  .rename_i hq;obtain⟨a,h3,h4⟩:=find_ok hk hnil ac5 hfalse hE.tail h;exact⟨a,hfalse e es i k' a h1 hq h3,h4.next⟩
  .cases h
structure abX (C:Ctx) (t:TypeId) (k:AV) (vk:Value) (kt:TypeId):Prop where
 map:C.P.underlying t=some (.map kt (oO C t))
 rel:nJ k vk
 check:∀ e w,(Instr.checkKey e 10000 kt vk).run C.P w=.ok () w
 stays:∀ w,(Instr.keyThatStays vk vk).run C.P w=.ok vk w
 find:∀ {K:Kx} {T:Nat->Nat->Prop} {l:List AV} {es:List MapEntry} {r:Option (Nat×AV)},Entries K T l es->qO k l 0=some r->∃ a,(∀ w,(Instr.findKey kt vk es).run C.P w=.ok a w)/\wF l es vk 0 r a
def IJ(b:UInt8)(n:Nat):Instr.sameBits n (.int .u8 b.toNat) (.int .u8 b.toNat)=true:=by
 cases n<;>simp[Instr.sameBits]
def Ib(l:List UInt8)(n:Nat):Instr.sameBits (n+1) (.agg (wS l)) (.agg (wS l))=true:=by
 simp only[Instr.sameBits,beq_self_eq_true,azh,ax5];intro x hx;obtain⟨a,b⟩:=x;have:∀ (m:List UInt8),(a,b)∈(m.map fun b=>Value.int .u8 b.toNat).zip (m.map fun b=>Value.int .u8 b.toNat)->Instr.sameBits n a b=true:=by
  intro m;induction m with
  | nil=>intro h;simp at h
  | cons y m ih=>
   intro h;simp only[ax9,List.zip_cons_cons,ax2,axJ]at h;rcases h with⟨rfl,rfl⟩|h
   .exact IJ y n
   .exact ih h
 exact this l (by simpa[wS]using hx)
def DV{C:Ctx}{t kt:TypeId}{d:TypeDesc}{k:AV}{vk:Value}(hm:C.P.underlying t=some (.map kt (oO C t)))(hd:C.P.underlying kt=some d)(hr:nJ k vk)(hi:IsKey d vk)
 (hs:∀ k' u b,nJ k' u->oM k k'=some b->Instr.sameNow d vk u=some b):abX C t k vk kt where
 map:=hm
 rel:=hr
 check:=fun e w=>run_checkKey hd hi e 9999
 stays:=fun w=>run_keyThatStays hi
 find:=by
  intro K T l es r hE h;obtain⟨a,h1,h2⟩:=find_ok (F:=fun es i a=>Instr.findNow d vk es i=some a) hr (fun i=>rfl)
   (fun e es i k' h1 h2=>by simp only[Instr.findNow,hs k' _ _ h1 h2])
   (fun e es i k' a h1 h2 h3=>by simp only[Instr.findNow,hs k' _ _ h1 h2];exact h3) hE h
  exact⟨a,fun w=>run_findKey hd h1,h2⟩
def VH{C:Ctx}{t kt e:TypeId}{n:Nat}{l:List UInt8}(hm:C.P.underlying t=some (.map kt (oO C t)))(hd:C.P.underlying kt=some (.array n e))(he:C.P.underlying e=some (.int .u8))(hs:C.P.cellsOf e=1)
 (hl:l.length=n):abX C t (.agg (.pb l)) (.agg (wS l)) kt where
 map:=hm
 rel:=⟨_,rfl,rfl⟩
 check:=fun em w=>Ae hd he hs hl em 9998
 stays:=fun w=>by
  simp[Instr.keyThatStays,Ib l 9999]
 find:=by
  intro K T m es r hE h;have heq:∀ k' u b,nJ k' u->oM (.agg (.pb l)) k'=some b->∀ w,(Op.equal kt (.agg (wS l)) u).run C.P w=.ok b w:=by
   intro k' u b hk hq w;cases k'<;>try (simp[oM]at hq;done)
   case agg p=>
    cases p<;>try (simp[oM]at hq;done)
    case pb a2=>
     simp only[oM]at hq;split at hq
     .rename_i hlen;simp only[axH]at hq;subst hq;rw[hk.agg];exact EO hd he hs hl (by omega)
     .cases hq
  obtain⟨a,h1,h2⟩:=find_ok (F:=fun es i a=>∀ w,(Instr.findAsking kt (.agg (wS l)) es i).run C.P w=.ok a w) (show nJ (.agg (.pb l)) _ from⟨_,rfl,rfl⟩) (fun i w=>by simp[Instr.findAsking])
   (fun e es i k' h1 h2 w=>by simp[Instr.findAsking,heq k' _ _ h1 h2 w,Result.andThen])
   (fun e es i k' a h1 h2 h3 w=>by simp[Instr.findAsking,heq k' _ _ h1 h2 w,Result.andThen,h3 w]) hE h
  exact⟨a,fun w=>by rw[run_findKey_eq w (by rw[hd])];exact h1 w,h2⟩
def LX{K:Kx}{T:Nat->Nat->Prop}{k:IntKind}{n:Int}{v:Value}(h:aF K T (.int k n) v):v=.int k n:=by simpa[aF,aK,aU,RV]using h
def abY{K:Kx}{T:Nat->Nat->Prop}{s:List UInt8}{v:Value}(h:aF K T (.str s) v):v=.string ⟨⟨s⟩⟩:=by simpa[aF,aK,aU,RV]using h
def ZN{K:Kx}{T:Nat->Nat->Prop}{b:Bool}{v:Value}(h:aF K T (.bool b) v):v=.bool b:=by simpa[aF,aK,aU,RV]using h
def aeV{K:Kx}{T:Nat->Nat->Prop}{l:List UInt8}{v:Value}(h:aF K T (.agg (.pb l)) v):v=.agg (wS l):=by
 simp only[aF,aK]at h;obtain⟨cs,rfl,h1,h2⟩:=h;simp only[iZ,GP]at h2;congr 1;apply Array.ext_getElem?;intro i;rw[BR];cases hi:l[i]? with
 | none=>
  have hlen:l.length<=i:=by simpa using hi
  rw[Array.getElem?_eq_none (by rw[h1];simpa[aV,ah,aS]using hlen)];rfl
 | some b=>rw[h2 i b hi];rfl
def key_ok{C:Ctx}{K:Kx}{T:Nat->Nat->Prop}{t:TypeId}{k:AV}{vk:Value}(hk:aF K T k vk)(h:Fh C t k=true):∃ kt,abX C t k vk kt:=by
 unfold Fh at h;split at h
 .rename_i kt et hu;have hm:C.P.underlying t=some (.map kt (oO C t)):=by have:=bf hu (by simp);rw[this];simp[oO,hu]
  refine⟨kt,?_⟩;split at h
  .rename_i k1 k2 n hu2;simp only[decide_eq_true_eq]at h;subst h;rw[LX hk];refine DV hm (bf hu2 (by simp)) rfl rfl fun k' u b h1 h2=>?_;cases k'<;>try (simp[oM]at h2;done)
   case int k3 m=>
    simp only[oM]at h2;split at h2
    .rename_i e2;subst e2;simp only[nJ]at h1;subst h1;simpa[Instr.sameNow]using h2
    .cases h2
  .rename_i s hu2;rw[abY hk];refine DV hm (bf hu2 (by simp)) rfl trivial fun k' u b h1 h2=>?_;cases k'<;>try (simp[oM]at h2;done)
   case str s2=>
    simp only[nJ]at h1;subst h1;simpa[Instr.sameNow,oM,Ri]using h2
  .rename_i b0 hu2;rw[ZN hk];refine DV hm (bf hu2 (by simp)) rfl trivial fun k' u b h1 h2=>?_;cases k'<;>try (simp[oM]at h2;done)
   case bool b2=>
    simp only[nJ]at h1;subst h1;simpa[Instr.sameNow,oM]using h2
  .rename_i n e l hu2;simp only[ax4,decide_eq_true_eq]at h;obtain⟨⟨h1,h2⟩,h3⟩:=h;rw[aeV hk];exact VH hm (bf hu2 (by simp)) (yO h1) h3 h2
  .cases h
 .cases h
def Ua{K:Kx}{T:Nat->Nat->Prop}{a:AV}{v:Value}(h:aF K T a v)(hn:oP a=true):aK K T a v:=by
 cases a<;>first|exact h|cases hn
def Fp{C:Ctx}{K:Kx}{T:Nat->Nat->Prop}(hI:Inv C K T){o g:Nat}{ob:Obj}{l:List AV}{v:Value}(hv:aF K T (.map o g) v)(hl:live K.H o g=some ob)(hp:ob.p=.pm l) :
 ∃ es clock,v=.map (some (K.μ o).blk)/\K.w.heap[(K.μ o).blk]?=some (.map es clock)/\es.size=l.length/\clock=l.length /\
  ∀ (i:Nat) (a:AV),l[i]?=some a->∃ (k v:AV) (e:MapEntry),a=.pc [k,v]/\es[i]?=some e/\e.born=i/\nJ k e.key/\aK K T v e.val:=by
 obtain⟨h1,h2⟩:=cZ.1 hl;simp only[aF,aK,aU]at hv;have h3:=(hv.2.2 ob h1).2 h2;have h4:=hI.obj o ob h1;unfold gB at h4;rw[hp]at h4;obtain⟨es,clock,h5,h6,h7,h8⟩:=h4;exact⟨es,clock,h3.2,h5,h6,h7,h8⟩
def Af{K:Kx}{T:Nat->Nat->Prop}{l:List AV}{es:Array MapEntry}(h1:es.size=l.length)
 (h2:∀ (i:Nat) (a:AV),l[i]?=some a->∃ (k v:AV) (e:MapEntry),a=.pc [k,v]/\es[i]?=some e/\e.born=i/\nJ k e.key/\aK K T v e.val):Entries K T l es.toList :=
 ⟨by simpa using h1,fun i a ha=>by
  obtain⟨k,v,e,e1,e2,_,e4,e5⟩:=h2 i a ha;exact⟨k,v,e,e1,by rw[ayr];exact e2,e4,e5⟩⟩
def BU{C:Ctx}{K:Kx}{T:Nat->Nat->Prop}(hI:Inv C K T){o g:Nat}{ob:Obj}{l l':List AV}{es es':Array MapEntry}{clock clock':Nat}(hl:live K.H o g=some ob)(hp:ob.p=.pm l)
 (hb:K.w.heap[(K.μ o).blk]?=some (.map es clock))(h1:es'.size=l'.length)(h2:clock'=l'.length)
 (h3:∀ (i:Nat) (a:AV),l'[i]?=some a->∃ (k v:AV) (e:MapEntry),a=.pc [k,v]/\es'[i]?=some e/\e.born=i/\nJ k e.key/\aK K T v e.val) :
 Inv C ⟨K.μ,upd K.H o (some { ob with p:=.pm l' }),{ K.w with heap:=K.w.heap.setIfInBounds (K.μ o).blk (.map es' clock') }⟩ T /\
  Evo T K.H.length K ⟨K.μ,upd K.H o (some { ob with p:=.pm l' }),{ K.w with heap:=K.w.heap.setIfInBounds (K.μ o).blk (.map es' clock') }⟩:=by
 obtain⟨hlv,hg⟩:=cZ.1 hl;have hlt:o<K.H.length:=abV hl;have hpm:ig ob.p=true:=by rw[hp];rfl
 obtain⟨hs1,hs2⟩:=heap_set (o':=.map es' clock') hb;have hself:∀ ob',(upd K.H o (some { ob with p:=.pm l' }))[o]?=some (some ob')->ob'={ ob with p:=.pm l' }:=by
  intro ob' h;rcases qA h with⟨_,h⟩|⟨h,_⟩
  .simpa using h.symm
  .exact absurd rfl h
 refine Inv.turn hI o (by simp[yU]) ?_ (by simp) rfl rfl rfl ?_ ?_ ?_ ?_
 .intro j hj ob' h;rcases qA h with⟨h,_⟩|⟨_,h⟩
  .exact absurd h hj
  .exact ⟨h,rfl⟩
 .intro b _ hne;exact .inl (hs2 b (ax6 (hne ob hlv (.inl hpm))))
 .intro ob' h hr;refine⟨.inl ⟨ob,hlv,.inl hpm,rfl⟩,?_⟩;have:=(ay8.1 hb).1;simpa using this
 .intro _ ob' h;have:=hself ob' h;subst this;refine⟨ob,hlv,axO _,fun _=>⟨rfl,?_⟩⟩;simp[Same,hp,aS,ah,ig]
 .intro hE ob' h;have:=hself ob' h;subst this;unfold gB;simp only;refine⟨es',clock',hs1,h1,h2,fun i a ha=>?_⟩;obtain⟨k,v,e,e1,e2,e3,e4,e5⟩:=h3 i a ha;exact⟨k,v,e,e1,e2,e3,e4,aK.evo hE (axO _) e5⟩
def oW{l:List AV}{es:Array MapEntry}{vk:Value}{i:Nat}{v:AV}{a:Option (Nat×Value)}(h:wF l es.toList vk 0 (some (i,v)) a) :
 ∃ e k',a=some (i,e.val)/\es[i]?=some e/\e.key=vk/\l[i]?=some (.pc [k',v]):=by
 cases a with
 | none=>exact h.elim
 | some x=>
  obtain⟨j,u⟩:=x;obtain⟨rfl,_,e,k',h1,rfl,h3,h4⟩:=h;exact⟨e,k',rfl,by simpa using h1,h3,by simpa using h4⟩
def mV{l:List AV}{es:List MapEntry}{vk:Value}{a:Option (Nat×Value)}(h:wF l es vk 0 none a):a=none:=by
 cases a with
 | none=>rfl
 | some x=>exact h.elim
def LY{K:Kx}{T:Nat->Nat->Prop}{a:AV}{v:Value}{ok b:Bool}(h:aK K T a v):aF K T (if ok then .tup [a,.bool b]else a) (if ok then .tuple #[v,.bool b]else v):=by
 cases ok with
 | false=>exact aK.v h
 | true=>
  refine⟨#[v,.bool b],rfl,rfl,fun j c hc=>?_⟩
  match j,hc with
  | 0,hc=>
   simp only[ayf,axH]at hc;subst hc;exact⟨v,rfl,h⟩
  | 1,hc=>
   simp only[axX,ayf,axH]at hc;subst hc;exact⟨.bool b,rfl,by simp[aK,aU,RV]⟩
  | j+2,hc=>simp at hc
def Rj{C:Ctx}{K:Kx}{T:Nat->Nat->Prop}(hI:Inv C K T){t:TypeId}{x k r:AV}{ok:Bool}{v vk:Value}(hv:aF K T x v)(hk:aF K T k vk)(h:lY C K.H t x k ok=some r) :
 ∃ u,(Instr.lookup t v vk ok).run C.P K.w=.ok u K.w/\aF K T r u:=by
 unfold lY at h;split at h
 .cases h
 .rename_i hc;simp only[vU,Bool.not_eq_false,ax4]at hc;obtain⟨c1,c2,c3⟩:=hc;obtain⟨kt,hkr⟩:=key_ok hk c1;obtain⟨z,hz,hzr,_⟩:=yT (K:=K) (T:=T) (t:=oO C t) (C:=C) rfl (fun e=>by rw[e]at c2;cases c2);have hz1:=Ua hzr c3;simp only at h;split at h
  .have:v=.map none:=by simpa[aF,aK,aU,RV]using hv
   subst this;simp only[axH]at h;subst h;obtain⟨a,h1,h2⟩:=hkr.find (K:=K) (T:=T) (l:=[]) (es:=[]) (r:=none) ⟨rfl,fun i a h=>by simp at h⟩ rfl;have:=mV h2;subst this;refine⟨_,?_,LY hz1⟩;simp[Instr.lookup,run_underlying hkr.map,Result.andThen,hkr.check,h1,hz]
  .rename_i o g;split at h
   .rename_i ob hl;split at h
    .rename_i l hp;obtain⟨es,clock,rfl,hb,h6,h7,h8⟩:=Fp hI hv hl hp;have hE:=Af h6 h8;split at h
     .rename_i i y hf;simp only[axH]at h;subst h;obtain⟨a,h1,h2⟩:=hkr.find hE hf;obtain⟨e,k',rfl,h3,h4,h5⟩:=oW h2;obtain⟨k2,v2,e2,e3,e4,e5,e6,e7⟩:=h8 _ _ h5;rw[h3]at e4;cases e4;cases e3;refine⟨_,?_,LY e7⟩;simp[Instr.lookup,run_underlying hkr.map,Result.andThen,Go.MapKept.run_getObj_map hb,hkr.check,h1]
     .rename_i hf;simp only[axH]at h;subst h;obtain⟨a,h1,h2⟩:=hkr.find hE hf;have:=mV h2;subst this;refine⟨_,?_,LY hz1⟩;simp[Instr.lookup,run_underlying hkr.map,Result.andThen,Go.MapKept.run_getObj_map hb,hkr.check,h1,hz]
     .cases h
    .cases h
   .cases h
  .cases h
def ZO{C:Ctx}{t:TypeId}{k:AV}{vk:Value}{kt:TypeId}(hkr:abX C t k vk kt){es:Array MapEntry}{i:Nat}{e:MapEntry}(h:es[i]?=some e)(he:e.key=vk)(w:World) :
 (Instr.keyThatStays (((es[i]?).map (·.key)).getD vk) vk).run C.P w=.ok vk w:=by
 rw[h];simp only[axM,ayv,he];exact hkr.stays w
def Ic{C:Ctx}{K:Kx}{T:Nat->Nat->Prop}(hI:Inv C K T){t:TypeId}{x k y:AV}{v vk vy:Value}{H':Heap}(hv:aF K T x v)(hk:aF K T k vk)(hy:aF K T y vy)(h:vV C K.H t x k y=some H') :
 ∃ w' μ',(Instr.mapUpdate t v vk vy).run C.P K.w=.ok () w'/\Inv C ⟨μ',H',w'⟩ T/\Evo T K.H.length K ⟨μ',H',w'⟩:=by
 unfold vV at h;split at h
 .cases h
 .rename_i hc;simp only[Bool.not_eq_false,ax4]at hc;obtain⟨c1,c3⟩:=hc;obtain⟨kt,hkr⟩:=key_ok hk c1;have hy1:=Ua hy c3;split at h
  .rename_i o g;split at h
   .rename_i ob hl;split at h
    .rename_i l hp;obtain⟨es,clock,rfl,hb,h6,h7,h8⟩:=Fp hI hv hl hp;have hE:=Af h6 h8;split at h
     .rename_i i y0 hf;simp only[axH]at h;subst h;obtain⟨a,h1,h2⟩:=hkr.find hE hf;obtain⟨e,k',rfl,h3,h4,h5⟩:=oW h2;obtain⟨g1,g2⟩:=BU (es':=es.modify i fun e=>{ e with key:=vk,val:=vy }) (l':=l.set i (.pc [k,y])) (clock':=clock) hI hl hp hb (by simp[h6]) (by simp[h7]) (by
       intro j a ha;rcases qp ha with⟨rfl,rfl,hjl⟩|⟨hne,ha⟩
       .obtain ⟨k2,v2,e2,e3,e4,e5,e6,e7⟩:=h8 _ _ h5;rw[h3]at e4;cases e4;exact⟨k,y,⟨vk,vy,e.born⟩,rfl,by rw[ayP,if_pos rfl,h3];rfl,e5,hkr.rel,hy1⟩
       .obtain ⟨k2,v2,e2,e3,e4,e5,e6,e7⟩:=h8 _ _ ha;exact⟨k2,v2,e2,e3,by rw[ayP,if_neg hne];exact e4,e5,e6,e7⟩)
      refine⟨_,_,?_,g1,g2⟩;simp[Instr.mapUpdate,run_underlying hkr.map,Result.andThen,Go.MapKept.run_getObj_map hb,hkr.check,h1,ZO hkr h3 h4,Go.MapKept.run_setObj_map _ hb]
     .rename_i hf;simp only[axH]at h;subst h;obtain⟨a,h1,h2⟩:=hkr.find hE hf;have:=mV h2;subst this;obtain⟨g1,g2⟩:=BU (es':=es.push { key:=vk,val:=vy,born:=clock }) (l':=l++[.pc [k,y]]) (clock':=clock+1) hI hl hp hb (by simp[h6]) (by simp[h7]) (by
       intro j a ha;rcases ug ha with⟨hj,ha⟩|⟨hj,ha⟩
       .obtain ⟨k2,v2,e2,e3,e4,e5,e6,e7⟩:=h8 _ _ ha;exact⟨k2,v2,e2,e3,by rw[azT (by omega),<- azf];exact e4,e5,e6,e7⟩
       .have hj0:j=l.length:=by have:=(axK.1 ha).1;simp at this;omega
        subst hj0;simp only[azI,ayf,axH]at ha;subst ha;exact⟨k,y,⟨vk,vy,clock⟩,rfl,by rw[<- h6];simp,h7,hkr.rel,hy1⟩)
      refine⟨_,_,?_,g1,g2⟩;simp[Instr.mapUpdate,run_underlying hkr.map,Result.andThen,Go.MapKept.run_getObj_map hb,hkr.check,h1,Go.MapKept.run_setObj_map _ hb]
     .cases h
    .cases h
   .cases h
  .cases h
def Ub{K:Kx}{T:Nat->Nat->Prop}{a:AV}{v:Value}{n:Int}(h:aK K T a v):aF K T (.tup [a,.int .i64 n]) (.tuple #[v,.int .i64 n]):=by
 refine⟨#[v,.int .i64 n],rfl,rfl,fun j c hc=>?_⟩
 match j,hc with
 | 0,hc=>
  simp only[ayf,axH]at hc;subst hc;exact⟨v,rfl,h⟩
 | 1,hc=>
  simp only[axX,ayf,axH]at hc;subst hc;exact⟨_,rfl,by simp[aK,aU,RV]⟩
 | j+2,hc=>simp at hc
def VI{C:Ctx}{K:Kx}{T:Nat->Nat->Prop}(hI:Inv C K T){t:TypeId}{x k r:AV}{v vk:Value}{H':Heap}(hv:aF K T x v)(hk:aF K T k vk)(h:uJ C K.H t x k=some (r,H')) :
 ∃ u w' μ',(Instr.mapEntry t v vk).run C.P K.w=.ok u w'/\Inv C ⟨μ',H',w'⟩ T/\Evo T K.H.length K ⟨μ',H',w'⟩/\aF ⟨μ',H',w'⟩ T r u:=by
 unfold uJ at h;split at h
 .cases h
 .rename_i hc;simp only[vU,Bool.not_eq_false,ax4]at hc;obtain⟨c1,c2,c3⟩:=hc;obtain⟨kt,hkr⟩:=key_ok hk c1;obtain⟨z,hz,hzr,_⟩:=yT (K:=K) (T:=T) (t:=oO C t) (C:=C) rfl (fun e=>by rw[e]at c2;cases c2);have hz1:=Ua hzr c3;split at h
  .rename_i o g;split at h
   .rename_i ob hl;split at h
    .rename_i l hp;obtain⟨es,clock,rfl,hb,h6,h7,h8⟩:=Fp hI hv hl hp;have hE:=Af h6 h8;split at h
     .rename_i i y0 hf;simp only[axH,axJ]at h;obtain⟨rfl,rfl⟩:=h;obtain⟨a,h1,h2⟩:=hkr.find hE hf;obtain⟨e,k',rfl,h3,h4,h5⟩:=oW h2;obtain⟨k2,v2,e2,e3,e4,e5,e6,e7⟩:=h8 _ _ h5;rw[h3]at e4;cases e4;cases e3;have hsame:es.modify i (fun e=>{ e with key:=vk })=es:=by
       apply Array.ext_getElem?;intro j;rw[ayP];split
       .rename_i hj;subst hj;rw[h3];simp only[axM];rw[<- h4]
       .rfl
      have hset:K.w.heap.setIfInBounds (K.μ o).blk (.map es clock)=K.w.heap:=by
       apply Array.ext_getElem?;intro j;by_cases hj:j=(K.μ o).blk
       .subst hj;rw[(heap_set hb).1,hb]
       .exact (heap_set hb).2 j hj
      have hst:∀ w,(Instr.keyThatStays e.key vk).run C.P w=.ok vk w:=fun w=>by rw[h4];exact hkr.stays w
      refine⟨_,K.w,K.μ,?_,hI,Evo.refl T K (axO _),Ub (n:=i) e7⟩;simp[Instr.mapEntry,run_underlying hkr.map,Result.andThen,Go.MapKept.run_getObj_map hb,hkr.check,h1,hst,Go.MapKept.run_setObj_map _ hb,hsame,hset,h3,e5,goInt]
     .rename_i hf;simp only[axH,axJ]at h;obtain⟨rfl,rfl⟩:=h;obtain⟨a,h1,h2⟩:=hkr.find hE hf;have:=mV h2;subst this;subst h7;obtain⟨g1,g2⟩:=BU (es':=es.push { key:=vk,val:=z,born:=l.length }) (l':=l++[.pc [k,bD C (oO C t)]]) (clock':=l.length+1) hI hl hp hb (by simp[h6]) (by simp) (by
       intro j a ha;rcases ug ha with⟨hj,ha⟩|⟨hj,ha⟩
       .obtain ⟨k2,v2,e2,e3,e4,e5,e6,e7⟩:=h8 _ _ ha;exact⟨k2,v2,e2,e3,by rw[azT (by omega),<- azf];exact e4,e5,e6,e7⟩
       .have hj0:j=l.length:=by have:=(axK.1 ha).1;simp at this;omega
        subst hj0;simp only[azI,ayf,axH]at ha;subst ha;exact⟨k,bD C (oO C t),⟨vk,z,l.length⟩,rfl,by rw[<- h6];simp,rfl,hkr.rel,hz1⟩)
      refine⟨_,_,_,?_,g1,g2,Ub (n:=l.length) (aK.evo g2 (axO _) hz1)⟩;simp[Instr.mapEntry,run_underlying hkr.map,Result.andThen,Go.MapKept.run_getObj_map hb,hkr.check,h1,hz,Go.MapKept.run_setObj_map _ hb,goInt]
     .cases h
    .cases h
   .cases h
  .cases h
def Ie{C:Ctx}{K:Kx}{T:Nat->Nat->Prop}(hI:Inv C K T){t:TypeId}{x s y:AV}{v vs vy:Value}{H':Heap}(hv:aF K T x v)(hk:aF K T s vs)(hy:aF K T y vy)(h:iD K.H x s y=some H') :
 ∃ w' μ',(Instr.entryStore t v vs vy).run C.P K.w=.ok () w'/\Inv C ⟨μ',H',w'⟩ T/\Evo T K.H.length K ⟨μ',H',w'⟩:=by
 unfold iD at h;split at h
 .cases h
 .rename_i hc;have hy1:=Ua hy (by simpa using hc);split at h
  .rename_i o g n;have hvs:=LX hk;subst hvs;split at h
   .rename_i ob hl;split at h
    .rename_i l hp;obtain⟨es,clock,rfl,hb,h6,h7,h8⟩:=Fp hI hv hl hp;split at h
     .rename_i hn;split at h
      .rename_i k _ hli;simp only[axH]at h;subst h;obtain⟨k2,v2,e,e3,e4,e5,e6,e7⟩:=h8 _ _ hli;cases e3;have hlt:n.toNat<es.size:=(ay8.1 e4).1;have hfind:es.findIdx? (fun e=>(e.born:Int)==n)=some n.toNat:=by
        rw[Array.findIdx?_eq_some_iff_getElem];refine⟨hlt,?_,fun j hj=>?_⟩
        .have:=(ay8.1 e4).2;rw[this,e5];simp;omega
        .have hjl:j<l.length:=by omega
         obtain⟨k3,v3,e',f3,f4,f5,_⟩:=h8 j _ (axI hjl);have:=(ay8.1 f4).2;rw[this,f5];simp;omega
       obtain⟨g1,g2⟩:=BU (es':=es.modify n.toNat fun e=>{ e with val:=vy }) (l':=l.set n.toNat (.pc [k,y])) (clock':=clock) hI hl hp hb (by simp[h6]) (by simp[h7]) (by
        intro j a ha;rcases qp ha with⟨rfl,rfl,hjl⟩|⟨hne,ha⟩
        .exact ⟨k,y,⟨e.key,vy,e.born⟩,rfl,by rw[ayP,if_pos rfl,e4];rfl,e5,e6,hy1⟩
        .obtain ⟨k2,v2,e2,f3,f4,f5,f6,f7⟩:=h8 _ _ ha;exact⟨k2,v2,e2,f3,by rw[ayP,if_neg hne];exact f4,f5,f6,f7⟩)
       refine⟨_,_,?_,g1,g2⟩;simp[Instr.entryStore,asInt,asIntOf,Result.andThen,Go.MapKept.run_getObj_map hb,hfind,Go.MapKept.run_setObj_map _ hb]
      .cases h
     .cases h
    .cases h
   .cases h
  .cases h
def Rk{C:Ctx}{K:Kx}{T:Nat->Nat->Prop}(hI:Inv C K T){t:TypeId}{r:Option AV}{v:Option Value}(hr:uM K T r v)(ht:KT C t=true)(hn:Dk r=true) :
 ∃ u w' μ',(Instr.makeMap t v).run C.P K.w=.ok u w'/\Inv C ⟨μ',(uK K.H).2,w'⟩ T/\Evo T K.H.length K ⟨μ',(uK K.H).2,w'⟩/\aF ⟨μ',(uK K.H).2,w'⟩ T (uK K.H).1 u:=by
 have hrun:(Instr.makeMap t v).run C.P K.w=.ok (.map (some K.w.heap.size)) (K.w.alloc (.map #[] 0)):=by
  cases v with
  | none=>rfl
  | some v=>
   cases r with
   | none=>exact hr.elim
   | some r=>
    have hr':aF K T r v:=hr;cases r<;>first|cases hn|skip
    have:=LX hr';subst this;unfold KT at ht;split at ht
    .rename_i kt et hu;simp[Instr.makeMap,run_underlying (bf hu (by simp)),asInt,asIntOf,Result.andThen]
    .cases ht
 obtain⟨μ',h1,h2,h3⟩:=Inv.push (w':=K.w.alloc (.map #[] 0)) hI ⟨.pm [],0,none,1,false,true,0⟩ ⟨K.w.heap.size,0,0⟩ (by simp) rfl rfl rfl (fun b hb=>alloc_old _ _ hb)
  (fun _=>⟨axO _,by simp⟩) (by
   intro μ' hold hm hE;unfold gB;simp only[hm];exact⟨#[],0,lC _ _,rfl,rfl,fun i a h=>by simp at h⟩)
 refine⟨_,_,μ',hrun,h2,h3,?_⟩;simp only[uK,aF,aK,aU];refine⟨by simp,rfl,fun ob hob=>?_⟩;have:ob=⟨.pm [],0,none,1,false,true,0⟩:=by simpa using hob.symm
 subst this;refine⟨axO _,fun _=>⟨rfl,?_⟩⟩;rw[h1]
def isFn:Op->Bool
 | .call c=>match c.callee with
  | .value _=>true
  | _=>false
 | _=>false
def wz{C:Ctx}{K:Kx}{T:Nat->Nat->Prop}(hI:Inv C K T){fr:Frame}{a:Act}(hf:rD K T fr a.tmps):∀ (l:List Operand) (ts:List TypeId),fD K T (fA C fr l ts) (l.map a.eval)
 | [],_=>trivial
 | x::r,ts=>by
  simp only[fA,ax9,fD];refine⟨?_,wz hI hf r _⟩;split
  .exact KY hI hf _ x
  .exact yE hI hf x
def uP{C:Ctx}{K:Kx}{T:Nat->Nat->Prop}(hI:Inv C K T){fr:Frame}{a:Act}(hf:rD K T fr a.tmps)(t:TypeId):∀ (l:List (Nat×Operand)),jF K T (iJ C fr t l) (l.map fun x=>(x.1,a.eval x.2))
 | []=>trivial
 | (_,x)::r=>⟨rfl,KY hI hf t x,uP hI hf t r⟩
def step_ok{C:Ctx}{K:Kx}{T:Nat->Nat->Prop}(hI:Inv C K T){fr:Frame}{a:Act}(hf:rD K T fr a.tmps){o:Oper}{cf:Cf}{x:AV}{H':Heap}(hno:isFn o.op=false)(h:step C cf fr K.H o=some (x,H')) :
 Res C T K x H' ((execOp a.eval o).run C.P K.w):=by
 have eO:∀ y,aF K T (aJ C fr y) (a.eval y):=yE hI hf;have eT:∀ t y,aF K T (gu C fr t y) (a.eval y):=KY hI hf
 -- a value,the heap and the world as they were
 have same:∀ {m:Option AV} {s:Sem Value},(∀ y,m=some y->∃ u,s.run C.P K.w=.ok u K.w/\aF K T y u)->(m.map fun v=>(v,K.H))=some (x,H') ->
  Res C T K x H' ((do pure (.value (<- s)):Sem Next).run C.P K.w):=by
  intro m s h1 h2;cases m with
  | none=>cases h2
  | some y=>
   simp only[axM,axH,axJ]at h2;obtain⟨rfl,rfl⟩:=h2;obtain⟨u,h3,h4⟩:=h1 _ rfl;exact Res.same hI (v:=u) (by simp only[Sem.run_bind,h3,Result.andThen_ok,Sem.run_pure]) h4
 -- a value,the heap turned
 have turn:∀ {s:Sem Value},(∃ u w' μ',s.run C.P K.w=.ok u w'/\Inv C ⟨μ',H',w'⟩ T/\Evo T K.H.length K ⟨μ',H',w'⟩/\aF ⟨μ',H',w'⟩ T x u) ->
  Res C T K x H' ((do pure (.value (<- s)):Sem Next).run C.P K.w):=by
  rintro s ⟨u,w',μ',h1,h2,h3,h4⟩;simp only[Sem.run_bind,h1,Result.andThen_ok,Sem.run_pure];exact⟨μ',h2,h3,h4⟩
 -- no value
 have skip:∀ {s:Sem Unit} {m:Option Heap},(∀ H1,m=some H1->∃ w' μ',s.run C.P K.w=.ok () w'/\Inv C ⟨μ',H1,w'⟩ T/\Evo T K.H.length K ⟨μ',H1,w'⟩)->(m.map fun H=>(AV.top,H))=some (x,H') ->
  Res C T K x H' ((do s;pure .skip:Sem Next).run C.P K.w):=by
  intro s m h1 h2;cases m with
  | none=>cases h2
  | some H1=>
   simp only[axM,axH,axJ]at h2;obtain⟨rfl,rfl⟩:=h2;obtain⟨w',μ',h3,h4,h5⟩:=h1 _ rfl;simp only[Sem.run_bind,h3,Result.andThen_ok,Sem.run_pure];exact⟨μ',h4,h5,aF.top _ _ _⟩
 unfold step at h;unfold execOp;cases hop:o.op<;>simp only[hop]at h ⊢
 case move y=>
  simp only[axH,axJ]at h;obtain⟨rfl,rfl⟩:=h;exact Res.same hI rfl (eT _ y)
 case assign y=>
  simp only[axH]at h;obtain⟨μ',h1,h2,h3⟩:=Rf (t:=o.type) hI (eT o.type y);rw[h]at h1 h2 h3;exact⟨μ',h1,h2,h3⟩
 case pick c y z=>
  have hc:=eO c;split at h
  .rename_i d hd;rw[hd]at hc;simp only[axH,axJ]at h;obtain⟨rfl,rfl⟩:=h;have hc':=hc.bool;cases d
   .exact Res.same hI (v:=a.eval z) (by rw[hc'];simp[asBool]) (eT _ z)
   .exact Res.same hI (v:=a.eval y) (by rw[hc'];simp[asBool]) (eT _ y)
  .cases h
 case alloc t=>
  cases hb:tY (bD C t)with
  | none=>rw[hb]at h;cases h
  | some p=>
   rw[hb]at h;simp only[axM,axH]at h;refine turn ?_;have:=Q9 hI hb;rw[h]at this;exact this
 case box t y=>
  cases hb:tY (gu C fr t y)with
  | none=>rw[hb]at h;cases h
  | some p=>
   rw[hb]at h;simp only[ayY]at h;split at h
   .simp only[axH]at h;refine turn ?_;have:=ZH (t:=t) hI (eT t y) hb;rw[h]at this;exact this
   .cases h
 case build t parts=>
  refine same (fun y hy=>?_) h;refine VF (parts:=iJ C fr 0 parts.toList) ?_ hy;rw[Array.toList_map];exact uP hI hf 0 _
 case buildSlice t n parts=>
  refine turn (H9 hI ?_ h);rw[Array.toList_map];exact uP hI hf _ _
 case load t y=>exact same (fun z hz=>MP hI (eO y) hz) h
 case store t y z=>
  refine skip (fun H1 h1=>?_) h;obtain⟨w',h2,h3,h4⟩:=VD hI (eO y) (eT t z) h1;exact⟨w',_,h2,h3,h4⟩
 case nilCheck y=>
  have hy:=eO y;split at h
  .rename_i o' i f g hd;rw[hd]at hy;split at h
   .rename_i ob hob;simp only[axH,axJ]at h;obtain⟨rfl,rfl⟩:=h;have hy2:=hy;simp only[aF,aK,aU]at hy2;obtain⟨ho,hg⟩:=cZ.1 hob;have:=((hy2.2.2 ob ho).2 hg).2;rw[this]at hy ⊢;exact Res.same hI rfl hy
   .cases h
  .rename_i p i f t hd;rw[hd]at hy;simp only[axH,axJ]at h;obtain⟨rfl,rfl⟩:=h;have hy2:=hy;simp only[aF,aK]at hy2;obtain⟨b,off,h1,_⟩:=hy2;rw[h1]at hy ⊢;exact Res.same hI rfl hy
  .cases h
 case binOp op t y z _=>
  refine same (fun r hr=>?_) h;obtain⟨v,h1,h2⟩:=abj hI (eT t y) (eT t z) hr;exact⟨v,h1,KX h2⟩
 case unOp op t y=>
  refine same (fun r hr=>?_) h;obtain⟨v,h1,h2⟩:=aei (P:=C.P) (eO y) hr;exact⟨v,h1,KX h2⟩
 case convert s d y=>
  refine turn ?_;obtain⟨u,w',h1,h2,h3,h4,h5⟩:=ZG hI (eT s y) h;subst h2;exact⟨u,w',_,h1,h3,h4,h5⟩
 case makeFunc fn first caps=>
  cases fn<;>simp only at h
  case func f=>
   split at h
   .rename_i hc;simp only[axH,axJ]at h;obtain⟨rfl,rfl⟩:=h;have asB:first=#[]:=azP hc.1
    subst asB;refine Res.same hI (v:=.func (.func f) #[] (caps.map a.eval)) (by simp[Instr.makeFunc]) ?_;simp only[aF,aK];refine⟨_,rfl,by simp,fun j b hb=>?_⟩;have hs:=uo hc.2 b (axT hb);rw[axP]at hb;cases hj:caps.toList[j]? with
    | none=>rw[hj]at hb;cases hb
    | some y=>
     rw[hj]at hb;simp only[axM,axH]at hb;subst hb;rw[ayr]at hj;exact⟨a.eval y,by simp[hj],aU.YU hs (eO y)⟩
   .cases h
  all_goals cases h
 case makeMap t r=>
  split at h
  .rename_i hc;simp only[axH]at h;refine turn ?_;have:=Rk hI (uM.map hI hf r) hc.1 hc.2;rw[h]at this;exact this
  .cases h
 case insert t m k y=>exact skip (fun H1 h1=>Ic hI (eO m) (eO k) (eT _ y) h1) h
 case mapUpdate t m k y=>exact skip (fun H1 h1=>Ic hI (eO m) (eO k) (eT _ y) h1) h
 case makeSlice t l c=>exact turn (II hI (eO l) (eO c) h)
 case slice t y lo hi mx=>
  split at h
  .rename_i hm;have:mx=none:=by simpa using hm
   subst this;exact same (fun z hz=>U6 hI (eT t y) (uM.map hI hf lo) (uM.map hI hf hi) hz) h
  .cases h
 case fieldAddr s y n=>exact same (fun z hz=>Iw (eO y) hz) h
 case field t y n=>exact same (fun z hz=>Vy (eT t y) hz) h
 case indexAddr t y ix=>exact same (fun z hz=>Iy hI (eO y) (eO ix) hz) h
 case index t y ix=>exact same (fun z hz=>Vz (eT t y) (eO ix) hz) h
 case lookup t y k ok=>exact same (fun z hz=>Rj hI (eO y) (eO k) hz) h
 case mapEntry t m k=>exact turn (VI hI (eO m) (eO k) h)
 case entryStore t m s y=>exact skip (fun H1 h1=>Ie (t:=t) hI (eO m) (eO s) (eT _ y) h1) h
 case extract t i=>
  have ht:=eO t;split at h
  .rename_i l hl;rw[hl]at ht;refine same (fun z hz=>?_) h;simp only[aF]at ht;obtain⟨vs,h1,h2,h3⟩:=ht;obtain⟨u,h4,h5⟩:=h3 i z hz;exact⟨u,by rw[h1];simp[Instr.extract,h4],h5.v⟩
  .cases h
 case call c=>
  unfold uX at h;split at h
  .rename_i b hb;have hr:(do let d<-resolve a.eval c o.type;invoke d.target d.args:Sem Next)=builtin b c.argTypes o.type (c.args.map fun | .const _=>true|_=>false) (c.args.map a.eval):=by simp[resolve,hb,invoke];rfl
   rw[hr];exact OQ hI (by rw[Array.toList_map];exact wz hI hf _ _) h _ _
  .rename_i y hy;simp only[isFn,hop,hy]at hno;cases hno
  .cases h
 all_goals cases h
end Go.AM
