/- The abstract machine, part 1: a deterministic evaluator for the program's code and the proof that what it tells is so. Conditions: none beyond the theorems' own. -/
import Derived.Laws.Sem
import Derived.MapKept
import Derived.WideKeyRuns
import Derived.Test.YtbodincpjijdiaaAm0
set_option linter.unusedSimpArgs false
set_option linter.unusedVariables false
set_option maxRecDepth 100000
set_option maxHeartbeats 8000000
namespace Go.AM
theorem qY.part {C:Ctx} {K:Kx} {T:Nat→Nat→Prop} {t:TypeId} {l:List AV} {cs:Array Value} {q:AV} {off:Nat} (hc:qY K T l (fun j=>cs[j]?)) (hl:l.length = cs.size)
  (hlen:((l.drop off).take (sizeT C t)).length = sizeT C t) (hq:mX C t ((l.drop off).take (sizeT C t)) = some q) :
  aA K T (.agg q) (.agg (cs.extract off (off + sizeT C t))):=by
 have h1:=qY.sub hc off (sizeT C t)
 have hle:sizeT C t ≠ 0→off + sizeT C t≤cs.size:=by
  intro h0;simp at hlen;omega
 have hget:∀ j,j < sizeT C t→(cs.extract off (off + sizeT C t))[j]? = cs[off + j]?:=by
  intro j hj
  have:=hle (by omega)
  simp [Array.getElem?_extract]
  omega
 have h2:qY K T ((l.drop off).take (sizeT C t)) (fun j=>(cs.extract off (off + sizeT C t))[j]?):=by
  intro j a ha
  obtain ⟨v,h3,h4⟩:=h1 j a ha
  exact ⟨v,by rw [← h3];exact hget j (uT ha).2,h4⟩
 obtain ⟨h3,h4⟩:=xQ h2 hq
 simp only [aA,aH]
 refine ⟨_,rfl,?_,h3⟩
 rw [h4,hlen]
 by_cases h0:sizeT C t = 0
 ·simp [h0];omega
 ·have:=hle h0
  simp;omega
theorem TW {C:Ctx} {K:Kx} {T:Nat→Nat→Prop} {t:TypeId} {a x:AV} {n:Nat} {v:Value} (hv:aA K T a v) (h:fG C t a n = some x) :
  ∃ u,(Instr.field t v n).run C.P K.w = .ok u K.w∧aA K T x u:=by
 unfold fG at h
 split at h
 ·rename_i l fd hfd
  obtain ⟨fs,hu,hf⟩:=Ag hfd
  simp only [aA,aH] at hv
  obtain ⟨cs,rfl,h1,h2⟩:=hv
  simp only [aS,ah,aO,auX] at h1
  have go:∀ u,(part fd.type cs fd.offset).run C.P K.w = .ok u K.w→(Instr.field t (.agg cs) n).run C.P K.w = .ok u K.w:=by
   intro u hp
   simp [Instr.field,aY hu,hf,asAgg,hp]
  split at h
  ·rename_i ha
   obtain ⟨d,hd⟩:=wL ha
   split at h
   ·rename_i hlen
    simp only [atU] at h
    obtain ⟨q,hq,rfl⟩:=h
    refine ⟨_,go _ ?_,qY.part h2 h1.symm hlen hq⟩
    simp [part,qL hd,ha,run_sizeOf hd]
   ·cases h
  ·rename_i ha
   split at h
   ·rename_i hok
    obtain ⟨d,hd,_⟩:=qZ hok
    obtain ⟨u,h3,_,h4⟩:=h2 _ _ h
    refine ⟨u,go u ?_,aA.s h4⟩
    simp only at h3
    simp [part,qL hd,ha,h3]
   ·cases h
 ·cases h
theorem TY {C:Ctx} {K:Kx} {T:Nat→Nat→Prop} {t:TypeId} {a ix x:AV} {v vi:Value} (hv:aA K T a v) (hi:aA K T ix vi) (h:OZ C t a ix = some x) :
  ∃ u,(Instr.index t v vi).run C.P K.w = .ok u K.w∧aA K T x u:=by
 unfold OZ at h
 split at h
 ·rename_i k n
  have:=hi.int
  subst this
  split at h
  ·rename_i s
   have:=hv.str
   subst this
   split at h
   ·rename_i hu
    have hu':=Dk hu
    split at h
    ·rename_i h0
     simp only [atU] at h
     obtain ⟨b,hb,rfl⟩:=h
     refine ⟨.int .u8 b.toNat,?_,by simp [aA,aH,aQ,RV,qj]⟩
     have hg:(⟨⟨s⟩⟩:ByteArray)[n.toNat]? = some b:=by
      obtain ⟨hlt,hb'⟩:=atD.1 hb
      exact (getElem?_pos (⟨⟨s⟩⟩:ByteArray) n.toNat hlt).trans (congrArg some hb')
     simp [Instr.index,asIntOf,aY hu',h0,hg]
    ·cases h
   ·cases h
  ·rename_i p
   split at h
   ·rename_i len e hu
    have hu':=aW hu (by simp)
    split at h
    ·rename_i hc
     obtain ⟨h0,h1,hs⟩:=hc
     simp only [aA,aH] at hv
     obtain ⟨cs,rfl,h2,h3⟩:=hv
     have go:∀ d,C.P.underlying e = some d→∀ u,(part e cs (n.toNat * sizeT C e)).run C.P K.w = .ok u K.w→(Instr.index t (.agg cs) (.int k n)).run C.P K.w = .ok u K.w:=by
      intro d hd u hp
      simp [Instr.index,asIntOf,aY hu',h0,h1,run_sizeOf hd,hp]
     split at h
     ·rename_i ha
      obtain ⟨d,hd⟩:=wL ha
      split at h
      ·rename_i es l
       simp only [atU] at h
       obtain ⟨q,hq,rfl⟩:=h
       simp only [iM,GP] at h3
       obtain ⟨r,rfl,h4,h5⟩:=h3.2 _ _ hq
       simp only [aO] at hs
       subst hs
       have hlt:=(atD.1 hq).1
       have hle:(n.toNat + 1) * sizeT C e≤l.length * sizeT C e:=aue _ hlt
       rw [avs] at hle
       simp only [aS,ah,aO] at h2
       refine ⟨_,go d hd _ (by simp [part,qL hd,ha,run_sizeOf hd];rfl),?_⟩
       simp only [aA,aH]
       refine ⟨_,rfl,by simp [aS,ah,aO];omega,?_⟩
       simp only [iM,GP]
       intro j b hb
       obtain ⟨u,h6,h7⟩:=h5 j b hb
       refine ⟨u,?_,h7⟩
       have hj:=(atD.1 hb).1
       rw [← h6]
       simp [Array.getElem?_extract]
       omega
      ·cases h
     ·rename_i ha
      split at h
      ·rename_i hok
       obtain ⟨d,hd,_⟩:=qZ hok
       obtain ⟨u,h4,_,h5⟩:=GP.get (aQ.wM K T) h3 h
       refine ⟨u,go d hd u ?_,aA.s h5⟩
       simp only [ave] at h4
       rw [hs] at h4
       simp [part,qL hd,ha,h4]
      ·cases h
    ·cases h
   ·cases h
  ·cases h
 ·cases h
theorem ZT {C:Ctx} {K:Kx} {T:Nat→Nat→Prop} (hI:Inv C K T) {t ty:TypeId} {ts:Array TypeId} {x:AV} {v:Value} {vs:Array Value} {n:Int} (hv:aA K T x v) (h:lenV C K.H t x = some n)
  (ht:ts[0]? = some t) (hvs:vs[0]? = some v):(Builtin.len_ ts ty vs).run C.P K.w = .ok (.int .i64 n) K.w:=by
 unfold lenV at h
 split at h
 ·rename_i s hu
  have hu':=aW hu (by simp)
  have:=hv.str
  subst this
  simp only [atA] at h;subst h
  simp [Builtin.len_,ht,hvs,aY hu',goInt]
  rfl
 ·rename_i len e hu
  have hu':=aW hu (by simp)
  simp only [atA] at h;subst h
  simp [Builtin.len_,ht,hvs,aY hu',goInt]
 ·rename_i e c p tg hu
  have hu':=aW hu (by simp)
  simp only [aA,aH,aQ,RV] at hv
  obtain ⟨ad,cap,rfl,_⟩:=hv
  simp only [atA] at h;subst h
  simp [Builtin.len_,ht,hvs,aY hu',goInt]
 ·rename_i e o off len g hu
  have hu':=aW hu (by simp)
  split at h
  ·rename_i ob hob
   simp only [aA,aH,aQ] at hv
   obtain ⟨h1,h2⟩:=bQ.1 hob
   obtain ⟨_,ad,cap,rfl,_⟩:=(hv.2.2 ob h1).2 h2
   simp only [atA] at h;subst h
   simp [Builtin.len_,ht,hvs,aY hu',goInt]
  ·cases h
 ·rename_i hu
  have hu':=aW hu (by simp)
  have:v = .map none:=by simpa [aA,aH,aQ,RV] using hv
  subst this
  simp only [atA] at h;subst h
  simp [Builtin.len_,ht,hvs,aY hu',goInt]
 ·rename_i o g hu
  have hu':=aW hu (by simp)
  split at h
  ·rename_i ob hob
   split at h
   ·rename_i l hl
    simp only [aA,aH,aQ] at hv
    obtain ⟨h1,h2⟩:=bQ.1 hob
    obtain ⟨_,rfl⟩:=(hv.2.2 ob h1).2 h2
    simp only [atA] at h;subst h
    have hO:=hI.obj o ob h1
    unfold fQ at hO
    rw [hl] at hO
    obtain ⟨es,clock,h3,h4,h5,_⟩:=hO
    simp [Builtin.len_,ht,hvs,aY hu',goInt,getObj,Sem.run,h3,h4]
   ·cases h
  ·cases h
 ·cases h
theorem ZU {C:Ctx} {K:Kx} {T:Nat→Nat→Prop} (hI:Inv C K T) {t ty:TypeId} {ts:Array TypeId} {x:AV} {v:Value} {vs:Array Value} {n:Int} (hv:aA K T x v) (h:LG C K.H t x = some n)
  (ht:ts[0]? = some t) (hvs:vs[0]? = some v):(Builtin.cap_ ts ty vs).run C.P K.w = .ok (.int .i64 n) K.w:=by
 unfold LG at h
 split at h
 ·rename_i e p tg hu
  have hu':=aW hu (by simp)
  simp only [aA,aH,aQ,RV] at hv
  obtain ⟨ad,cap,rfl,hs,_⟩:=hv
  simp only [atA] at h;subst h
  have:=(hs.2.1 rfl).2
  simp [Builtin.cap_,ht,hvs,aY hu',goInt,this]
 ·rename_i e p tg hu
  have hu':=aW hu (by simp)
  simp only [aA,aH,aQ,RV] at hv
  obtain ⟨ad,cap,rfl,hs,_⟩:=hv
  simp only [atA] at h;subst h
  have:=hs.2.2.2 rfl
  simp [Builtin.cap_,ht,hvs,aY hu',goInt,this]
 ·rename_i e o off len g hu
  have hu':=aW hu (by simp)
  split at h
  ·rename_i ob hob
   split at h
   ·rename_i c hc
    simp only [aA,aH,aQ] at hv
    obtain ⟨h1,h2⟩:=bQ.1 hob
    obtain ⟨hpm,ad,cap,rfl,h3,_⟩:=(hv.2.2 ob h1).2 h2
    obtain ⟨hsh,_⟩:=(hI.obj o ob h1).open hpm
    have:=hsh.2.1 c hc
    simp only [atA] at h;subst h
    simp [Builtin.cap_,ht,hvs,aY hu',goInt]
    omega
   ·cases h
  ·cases h
 ·cases h
theorem IL {C:Ctx} {K:Kx} {T:Nat→Nat→Prop} (hI:Inv C K T) {x p:AV} {v:Value} (hv:aA K T x v) (h:tq K.H x = some p) :
  ∃ ad cap,v = .slice ad (ah p) cap∧ah p≤cap∧(∀ e,aO p = e→ah p ≠ 0→∃ b off,ad = some ⟨b,off,none⟩∧∃ S:AV→Value→Prop,GP S p (fun j=>K.w.cell? ⟨b,off + j,none⟩)):=by
 unfold tq at h
 split at h
 ·rename_i c q t
  simp only [atA] at h;subst h
  simp only [aA,aH,aQ,RV] at hv
  obtain ⟨ad,cap,rfl,hs,hr⟩:=hv
  refine ⟨ad,cap,rfl,hs.1,fun e _ hn=>?_⟩
  have had:ad.isSome = true:=hs.2.2.1 (fun h0=>by have:=(hs.2.1 h0).2;have:=hs.1;omega)
  obtain ⟨⟨b,off,sp⟩,rfl⟩:=aui.1 had
  obtain ⟨h1,_,h2⟩:=hr _ rfl hn
  simp only at h1 h2
  subst h1
  exact ⟨b,off,rfl,_,jr.1 h2⟩
 ·rename_i o off len g
  split at h
  ·rename_i ob hob
   simp only [aA,aH,aQ] at hv
   obtain ⟨h1,h2⟩:=bQ.1 hob
   obtain ⟨hpm,ad,cap,rfl,h3,h4,h5,_⟩:=(hv.2.2 ob h1).2 h2
   obtain ⟨hsh,_⟩:=(hI.obj o ob h1).open hpm
   have hlen:=Ah h
   refine ⟨ad,cap,by rw [hlen],by rw [hlen];have:=hsh.1;omega,fun e _ hn=>?_⟩
   have hcap:cap ≠ 0:=by have:=hsh.1;omega
   have hpl:ah ob.p ≠ 0:=by omega
   have hp:=xR hI hob hpm hpl
   have:=h5 hcap
   refine ⟨_,_,this,?_⟩
   have key:∀ {S:AV→Value→Prop},GP S ob.p (fun j=>K.w.cell? ⟨(K.μ o).blk,(K.μ o).base + j,none⟩)→GP S p (fun j=>K.w.cell? ⟨(K.μ o).blk,(K.μ o).base + off * aO ob.p + j,none⟩):=by
    intro S hS
    have:=(GP.sub hS h).1
    simp only [← avy] at this
    exact this
   unfold fM at hp
   split at hp
   ·exact ⟨_,key hp⟩
   ·exact ⟨_,key (jr.1 hp)⟩
  ·cases h
 ·cases h
theorem foldl_push:∀ (l:List UInt8) (s:ByteArray),((l.map fun b=>(b.toNat:Int)).foldl (fun r n=>r.push (UInt8.ofNat n.toNat)) s) = ⟨⟨s.data.toList ++ l⟩⟩
 | [],s=>by simp
 | b :: l,s=>by
  simp only [aua,avO]
  rw [foldl_push l]
  have:(s.push (UInt8.ofNat (b.toNat:Int).toNat)).data.toList = s.data.toList ++ [b]:=by
   simp [ByteArray.push]
  rw [this]
  simp
theorem Ua {P:Program} {w:World} {l:List UInt8} {b off cap:Nat} (h:∀ (j:Nat) (x:UInt8),l[j]? = some x→w.cell? ⟨b,off + j,none⟩ = some (.int .u8 x.toNat)) :
  (Conv.bytesToString (.slice (some ⟨b,off,none⟩) l.length cap)).run P w = .ok (.string ⟨⟨l⟩⟩) w:=by
 have hl:(loadCells ⟨b,off,none⟩ l.length).run P w = .ok ((l.map fun x=>(x.toNat:Int)).map (Value.int .u8)).toArray w:=by
  have:=run_loadCells_list (P:=P) (w:=w) ⟨b,off,none⟩ ((l.map fun x=>(x.toNat:Int)).map (Value.int .u8)) (by
   intro j v hv
   simp only [atI,atU] at hv
   obtain ⟨n,⟨x,hx,rfl⟩,rfl⟩:=hv
   rw [add_lit]
   exact h j x hx)
  simpa using this
 rw [run_bytesToString w ⟨b,off,none⟩ l.length cap (l.map fun x=>(x.toNat:Int)) hl,foldl_push]
 simp
theorem XY {C:Ctx} {K:Kx} {T:Nat→Nat→Prop} (hI:Inv C K T) {s d:TypeId} {x y:AV} {v:Value} {H':Heap} (hv:aA K T x v) (h:vG C K.H s d x = some (y,H')) :
  ∃ u w',(convert s d v).run C.P K.w = .ok u w'∧H' = K.H∧Inv C ⟨K.μ,K.H,w'⟩ T∧Evo T K.H.length K ⟨K.μ,K.H,w'⟩∧aA ⟨K.μ,K.H,w'⟩ T y u:=by
 unfold vG at h
 split at h
 ·cases h
 rename_i hok
 obtain ⟨ds,hds,_⟩:=qZ (by simpa using hok)
 have same:∀ {u:Value},(convert s d v).run C.P K.w = .ok u K.w→H' = K.H→aA K T y u →
   ∃ u w',(convert s d v).run C.P K.w = .ok u w'∧H' = K.H∧Inv C ⟨K.μ,K.H,w'⟩ T∧Evo T K.H.length K ⟨K.μ,K.H,w'⟩∧aA ⟨K.μ,K.H,w'⟩ T y u :=
  fun h1 h2 h3=>⟨_,_,h1,h2,hI,Evo.refl T K (atG _),h3⟩
 split at h
 ·rename_i k k' n hu
  have hu':=aW hu (by simp)
  simp only [atA,atC] at h
  obtain ⟨rfl,rfl⟩:=h
  have:=hv.int
  subst this
  refine same (u:=.int k (k.wrap n)) ?_ rfl (by simp [aA,aH,aQ,RV])
  simp [convert,aY hds,aY hu',Conv.intToInt]
 ·rename_i b hu
  have hu':=aW hu (by simp)
  simp only [atA,atC] at h
  obtain ⟨rfl,rfl⟩:=h
  have:=hv.str
  subst this
  refine same (u:=.string ⟨⟨b⟩⟩) ?_ rfl (by simp [aA,aH,aQ,RV])
  simp only [convert,Sem.run_bind,aY hds,aY hu',Result.andThen_ok]
  cases ds <;> rfl
 ·rename_i x _ _ hu _
  have hu':=aW hu (by simp)
  split at h
  ·rename_i e hus
   have aoO:=aW hus (by simp)
   split at h
   ·rename_i hu8
    have he:=xW hu8
    have go:∀ {l:List UInt8},tq K.H x = some (.pb l)∨(tq K.H x = some .pn∧l = [])→y = .str l→H' = K.H→
     ∃ u w',(convert s d v).run C.P K.w = .ok u w'∧H' = K.H∧Inv C ⟨K.μ,K.H,w'⟩ T∧Evo T K.H.length K ⟨K.μ,K.H,w'⟩∧aA ⟨K.μ,K.H,w'⟩ T y u:=by
     rintro l hl rfl rfl
     refine same (u:=.string ⟨⟨l⟩⟩) ?_ rfl (by simp [aA,aH,aQ,RV])
     have key:∃ ad cap,v = .slice ad l.length cap∧(l.length ≠ 0→∃ b off,ad = some ⟨b,off,none⟩∧∀ (j:Nat) (x:UInt8),l[j]? = some x→K.w.cell? ⟨b,off + j,none⟩ = some (.int .u8 x.toNat)):=by
      rcases hl with hl | ⟨hl,rfl⟩
      ·obtain ⟨ad,cap,h1,_,h2⟩:=IL hI hv hl
       refine ⟨ad,cap,h1,fun hn=>?_⟩
       obtain ⟨b,off,h3,S,h4⟩:=h2 1 rfl hn
       exact ⟨b,off,h3,h4⟩
      ·obtain ⟨ad,cap,h1,_,h2⟩:=IL hI hv hl
       exact ⟨ad,cap,h1,fun hn=>absurd rfl hn⟩
     obtain ⟨ad,cap,rfl,h2⟩:=key
     rw [run_convert_bytes_string K.w s d e ad l.length cap aoO he hu']
     by_cases h0:l.length = 0
     ·have:l = []:=aup h0
      subst this
      cases ad with
      | none=>rfl
      | some ad =>
       simp [Conv.bytesToString,loadCells,loadCellsFrom]
       rfl
     ·obtain ⟨b,off,rfl,h3⟩:=h2 h0
      exact Ua h3
    split at h
    ·rename_i l hl
     simp only [atA,atC] at h
     exact go (.inl hl) h.1.symm h.2.symm
    ·rename_i hl
     simp only [atA,atC] at h
     exact go (.inr ⟨hl,rfl⟩) h.1.symm h.2.symm
    ·cases h
   ·cases h
  ·cases h
 ·rename_i e b hu
  have hu':=aW hu (by simp)
  split at h
  ·rename_i hu8
   have he:=xW hu8
   simp only [atA,atC] at h
   obtain ⟨rfl,rfl⟩:=h
   have:=hv.str
   subst this
   let cap:=(Question.appendCap b.length 0 e).cut (K.w.tape K.w.drawn (.appendCap b.length 0 e))
   let arr:Array Value:=(b.map fun x=>Value.int .u8 x.toNat).toArray ++ Array.replicate (cap - b.length) (.int .u8 0)
   let w1:World:=(K.w.drew.alloc (.cells arr e)).freeze ⟨K.w.heap.size,arr.size,none⟩ 1
   have hcap:b.length≤cap:=by simp [cap,Question.cut]
   have hrun:(convert s d (.string ⟨⟨b⟩⟩)).run C.P K.w = .ok (.slice (some ⟨K.w.heap.size,0,none⟩) b.length cap) w1:=by
    have hsz:(⟨⟨b⟩⟩:ByteArray).size = b.length:=rfl
    have hq:∀ n,(Question.appendCap n 0 e).forced = false:=fun n=>rfl
    have harr:Array.map (fun b=>Value.int .u8 b.toNat) (⟨⟨b⟩⟩:ByteArray).data ++ Array.replicate (cap - b.length) (.int .u8 0) = arr:=by simp [arr]
    have hshape:(K.w.drew.alloc (.cells arr e)).shape? K.w.heap.size = some (e,arr.size):=by
     unfold World.shape?
     rw [show K.w.heap.size = K.w.drew.heap.size from rfl,heap_alloc_new]
    have hc:(Conv.stringToBytes e ⟨⟨b⟩⟩).run C.P K.w = .ok (.slice (some ⟨K.w.heap.size,0,none⟩) b.length cap) w1:=by
     simp only [Conv.stringToBytes,Sem.run_bind,run_choose,hsz,hq,atO,if_false,Result.andThen_ok,newRow,run_newObj,Sem.run_pure,markStringish,run_shape]
     rw [show (Question.appendCap b.length 0 e).cut (K.w.tape K.w.drawn (.appendCap b.length 0 e)) = cap from rfl,harr]
     have e1:({ heap:=K.w.heap.push (.cells arr e),tape:=K.w.tape,drawn:=K.w.drawn + 1,os:=K.w.os,output:=K.w.output }:World) = K.w.drew.alloc (.cells arr e):=rfl
     rw [e1,hshape]
     simp only [Sem.run_bind,run_freeze,Result.andThen_ok,Sem.run_pure]
     rfl
    simp only [convert,Sem.run_bind,aY hds,aY hu',Result.andThen_ok]
    cases ds <;> simp only [Sem.run_bind,aY he,Result.andThen_ok,hc]
   have hheap:∀ k,k ≠ K.w.heap.size→w1.heap[k]? = (K.w.drew.alloc (.cells arr e)).heap[k]?:=by
    intro k hk
    simp only [w1,World.freeze]
    rw [if_neg (by decide)]
    simp only [auO]
    rw [if_neg (auf hk)]
   have hsize:w1.heap.size = K.w.heap.size + 1:=by
    simp only [w1,World.freeze]
    rw [if_neg (by decide)]
    simp
   have hcell:∀ j,w1.cell? ⟨K.w.heap.size,j,none⟩ = arr[j]?:=by
    intro j
    simp only [w1,World.freeze]
    rw [if_neg (by decide)]
    simp only [World.cell?,auO,if_true]
    rw [show K.w.heap.size = K.w.drew.heap.size from rfl,heap_alloc_new]
    simp
   have hos:w1.os = K.w.os∧w1.tape = K.w.tape∧w1.output = K.w.output:=by
    simp only [w1,World.freeze]
    rw [if_neg (by decide)]
    exact ⟨rfl,rfl,rfl⟩
   obtain ⟨hI',hE⟩:=Inv.world (w':=w1) hI (by omega) hos.1 hos.2.1 hos.2.2 (fun k hk=>.inl (by rw [hheap k (by omega)];exact heap_alloc_old K.w.drew _ hk))
   refine ⟨_,w1,hrun,rfl,hI',hE,?_⟩
   simp only [aA,aH,aQ,RV,ah]
   refine ⟨_,cap,rfl,⟨hcap,by simp,by simp,by simp⟩,fun a ha hn=>?_⟩
   simp only [atA] at ha
   subst ha
   refine ⟨rfl,⟨hI.new _ (atG _),fun ho=>?_,by simp only [hsize];omega⟩,?_⟩
   ·have:=(hI.own _ (hE.own _ ?_ ho)).1
    ·simp at this
    ·obtain ⟨o,ob,h1,h2,h3⟩:=ho
     exact absurd (hI.own _ ⟨o,ob,h1,h2,h3⟩).1 (by simp)
   ·simp only [RP]
    intro j x hx
    rw [auo,hcell]
    have hj:=(atD.1 hx).1
    simp only [arr]
    rw [Array.getElem?_append_left (by simpa using hj)]
    simp [hx]
  ·cases h
 ·rename_i e p hu
  have hu':=aW hu (by simp)
  split at h
  ·rename_i hc
   obtain ⟨rfl,hu8,hn⟩:=hc
   have he:=xW hu8
   simp only [atA,atC] at h
   obtain ⟨rfl,rfl⟩:=h
   have hv0:=hv
   simp only [aA,aH,aQ,RV] at hv
   obtain ⟨ad,cap,rfl,hs,hr⟩:=hv
   obtain ⟨⟨b,off,sp⟩,rfl⟩:=aui.1 (hs.2.2.1 (by decide))
   obtain ⟨h1,h2,h3⟩:=hr _ rfl hn
   simp only at h1 h2 h3
   subst h1
   have hmark:∃ w1,(markStringish ⟨b,off,none⟩).run C.P K.w = .ok () w1∧w1.heap.size = K.w.heap.size∧w1.os = K.w.os∧w1.tape = K.w.tape∧w1.output = K.w.output ∧
     (∀ k,k ≠ b→w1.heap[k]? = K.w.heap[k]?)∧∀ j,w1.cell? ⟨b,j,none⟩ = K.w.cell? ⟨b,j,none⟩:=by
    unfold markStringish
    simp only [Sem.run_bind,run_shape,Result.andThen_ok]
    cases hsh:K.w.shape? b with
    | none=>exact ⟨K.w,by simp,rfl,rfl,rfl,rfl,fun _ _=>rfl,fun _=>rfl⟩
    | some x =>
     obtain ⟨ty,n⟩:=x
     refine ⟨K.w.freeze ⟨b,n,none⟩ 1,by simp,?_⟩
     simp only [World.freeze]
     rw [if_neg (by decide)]
     refine ⟨by simp,rfl,rfl,rfl,fun k hk=>?_,fun j=>?_⟩
     ·simp only [auO];rw [if_neg (auf hk)]
     ·simp only [World.cell?,auO,if_true]
      cases K.w.heap[b]? with
      | none=>rfl
      | some o=>cases o <;> rfl
   obtain ⟨w1,hm1,hm2,hm3,hm4,hm5,hm6,hm7⟩:=hmark
   obtain ⟨hI',hE⟩:=Inv.world (w':=w1) hI (by omega) hm3 hm4 hm5 (fun k hk=>by
    by_cases e':k = b
    ·subst e';exact .inr ⟨h2.2.1,h2.1,hm7⟩
    ·exact .inl (hm6 k e'))
   refine ⟨_,w1,?_,rfl,hI',hE,aA.evo hE (atG _) hv0⟩
   simp [convert,aY hu',aY he,hm1]
  ·cases h
 ·cases h
theorem kP (w:World) (o:Go.Obj):(w.alloc o).heap[w.heap.size]? = some o:=Go.heap_alloc_new w o
theorem alloc_old (w:World) (o:Go.Obj) {b:Nat} (h:b < w.heap.size):(w.alloc o).heap[b]? = w.heap[b]?:=Go.heap_alloc_old w o h
theorem iM.pos {K:Kx} {T:Nat→Nat→Prop} {p:AV} {r:Nat→Option Value} (h:iM K T p r):0 < aO p∧gJ p = false:=by
 cases p <;> simp_all [iM,GP,aO,gJ]
theorem IU {C:Ctx} {K:Kx} {T:Nat→Nat→Prop} (hI:Inv C K T) {p:AV} {cs:Array Value} (hp:iM K T p (fun j=>cs[j]?)) (hs:cs.size = aS p) (E:TypeId) :
  ∃ μ',Inv C ⟨μ',(jf K.H p).2,K.w.alloc (.cells cs E)⟩ T∧Evo T K.H.length K ⟨μ',(jf K.H p).2,K.w.alloc (.cells cs E)⟩ ∧
   aA ⟨μ',(jf K.H p).2,K.w.alloc (.cells cs E)⟩ T (jf K.H p).1 (.pointer (some ⟨K.w.heap.size,0,none⟩)):=by
 obtain ⟨hpos,hpm⟩:=hp.pos
 obtain ⟨μ',h1,h2,h3⟩:=Inv.push (w':=K.w.alloc (.cells cs E)) hI ⟨p,0,some (ah p),1,false,sD p,0⟩ ⟨K.w.heap.size,0,ah p⟩ (by simp) rfl rfl rfl (fun b hb=>alloc_old _ _ hb)
  (fun _=>⟨atG _,by simp⟩) (by
   intro μ' hold hm hE
   have hsh:uQ (μ' K.H.length) ⟨p,0,some (ah p),1,false,sD p,0⟩:=by
    rw [hm]
    exact ⟨atG _,fun c hc=>by simpa using hc.symm,fun _=>rfl,fun h=>by simp at h⟩
   have hcl:Ad ⟨μ',K.H ++ [some ⟨p,0,some (ah p),1,false,sD p,0⟩],K.w.alloc (.cells cs E)⟩ T (μ' K.H.length) ⟨p,0,some (ah p),1,false,sD p,0⟩:=by
    rw [hm]
    intro hc
    refine ⟨cs,E,kP _ _,by simp [hs,aS],hpos,?_⟩
    unfold fM
    simp only [auo]
    split
    ·exact iM.imp (fun _ _=>aQ.evo hE (atG _)) hp
    ·rename_i hid
     cases p <;> simp_all [sD,iM,GP,RP]
   unfold fQ
   split
   ·rename_i heq;simp only at heq;rw [heq] at hpm;simp [gJ] at hpm
   ·exact ⟨hsh,hcl⟩)
 refine ⟨μ',h2,h3,?_⟩
 simp only [jf,aA,aH,aQ]
 refine ⟨by simp,rfl,fun ob hob=>?_⟩
 have:ob = ⟨p,0,some (ah p),1,false,sD p,0⟩:=by simpa using hob.symm
 subst this
 refine ⟨atG _,fun _=>⟨hpm,?_⟩⟩
 rw [h1]
 simp
theorem Nr {K:Kx} {T:Nat→Nat→Prop} {x p:AV} {v:Value} (hv:aA K T x v) (h:su x = some p):iM K T p (fun j=>v.cells[j]?)∧v.cells.size = aS p:=by
 unfold su at h
 split at h
 ·simp only [atA] at h
  subst h
  simp only [aA,aH] at hv
  obtain ⟨cs,rfl,h1,h2⟩:=hv
  exact ⟨h2,h1⟩
 ·split at h
  ·rename_i hs
   simp only [atA] at h
   subst h
   have h1:=aQ.Xn hs hv
   have h2:=aQ.cell hs h1
   have h3:v.cells = #[v]:=by cases v <;> first | rfl | (simp [Value.oneCell'] at h2)
   rw [h3]
   refine ⟨?_,rfl⟩
   simp only [iM,GP]
   intro j a ha
   cases j with
   | zero=>simp at ha;subst ha;exact ⟨v,rfl,h2,h1⟩
   | succ j=>simp at ha
  ·cases h
theorem F8 {P:Program} {w:World} (t:TypeId) (v:Value):(newVar t v).run P w = .ok ⟨w.heap.size,0,none⟩ (w.alloc (.cells v.cells t)):=by
 simp [newVar,newRow]
theorem x9 {C:Ctx} {K:Kx} {T:Nat→Nat→Prop} {t:TypeId} {p:AV} (h:bg C t = p) (hp:p ≠ .top):∃ z,(zeroValue t).run C.P K.w = .ok z K.w∧aA K T p z∧(∃ i,C.P.info? t = some i∧i.zero = some z):=by
 unfold bg at h
 split at h
 ·rename_i z hz
  subst h
  cases hi:C.P.info? t with
  | none=>rw [hi] at hz;simp at hz
  | some i =>
   rw [hi] at hz
   simp at hz
   exact ⟨z,by simp [zeroValue,typeInfo,hi,hz],QY t z,i,rfl,hz⟩
 ·exact absurd h.symm hp
theorem PW {C:Ctx} {K:Kx} {T:Nat→Nat→Prop} (hI:Inv C K T) {t:TypeId} {p:AV} (h:su (bg C t) = some p) :
  ∃ u w' μ',(Instr.alloc t true (.tuple #[])).run C.P K.w = .ok u w'∧Inv C ⟨μ',(jf K.H p).2,w'⟩ T∧Evo T K.H.length K ⟨μ',(jf K.H p).2,w'⟩∧aA ⟨μ',(jf K.H p).2,w'⟩ T (jf K.H p).1 u:=by
 have hne:bg C t ≠ .top:=by intro h0;rw [h0] at h;simp [su,scalar] at h
 obtain ⟨z,h1,h2,_⟩:=x9 (K:=K) (T:=T) rfl hne
 obtain ⟨h3,h4⟩:=Nr h2 h
 obtain ⟨μ',h5,h6,h7⟩:=IU hI h3 h4 t
 exact ⟨_,_,μ',by simp [Instr.alloc,h1,F8],h5,h6,h7⟩
theorem XZ {C:Ctx} {K:Kx} {T:Nat→Nat→Prop} (hI:Inv C K T) {t:TypeId} {x p:AV} {v:Value} (hv:aA K T x v) (h:su x = some p) :
  ∃ u w' μ',(Instr.box t v).run C.P K.w = .ok u w'∧Inv C ⟨μ',(jf K.H p).2,w'⟩ T∧Evo T K.H.length K ⟨μ',(jf K.H p).2,w'⟩∧aA ⟨μ',(jf K.H p).2,w'⟩ T (jf K.H p).1 u:=by
 obtain ⟨h3,h4⟩:=Nr hv h
 obtain ⟨μ',h5,h6,h7⟩:=IU hI h3 h4 t
 exact ⟨_,_,μ',by simp [Instr.box,F8],h5,h6,h7⟩
theorem pushRow {C:Ctx} {K:Kx} {T:Nat→Nat→Prop} (hI:Inv C K T) (ob:Obj) {w':World} {cs:Array Value} {E:TypeId} {cap:Nat} (hrow:ob.row = true) (hg:ob.g = 0)
  (hz:ob.z = 0→ah ob.p ≠ 0) (hpm:gJ ob.p = false)
  (hw:w'.heap.size = K.w.heap.size + 1) (hos:w'.os = K.w.os) (htape:w'.tape = K.w.tape) (hout:w'.output = K.w.output)
  (hnew:w'.heap[K.w.heap.size]? = some (.cells cs E (0,0))) (hold:∀ b,b < K.w.heap.size→w'.heap[b]? = K.w.heap[b]?)
  (hcap:ah ob.p≤cap) (hsz:cap * aO ob.p≤cs.size) (hpos:0 < aO ob.p) (hoc:∀ c,ob.cap = some c→c = cap) (hpay:fM K T ob (fun j=>cs[j]?)) :
  ∃ μ',Inv C ⟨μ',K.H ++ [some ob],w'⟩ T∧Evo T K.H.length K ⟨μ',K.H ++ [some ob],w'⟩ ∧
   aA ⟨μ',K.H ++ [some ob],w'⟩ T (.sl K.H.length 0 (ah ob.p) 0) (.slice (some ⟨K.w.heap.size,0,none⟩) (ah ob.p) cap):=by
 obtain ⟨μ',h1,h2,h3⟩:=Inv.push (w':=w') hI ob ⟨K.w.heap.size,0,cap⟩ (by omega) hos htape hout hold
  (fun _=>⟨atG _,by simp only [hw];omega⟩) (by
   intro μ' hold hm hE
   unfold fQ
   split
   ·rename_i heq;rw [heq] at hpm;simp [gJ] at hpm
   ·refine ⟨?_,?_⟩
    ·simp only [hm]
     exact ⟨hcap,hoc,fun h=>by simp [hrow] at h,fun h=>.inr (hz h)⟩
    ·simp only [hm]
     intro hc
     refine ⟨cs,E,hnew,by simpa using hsz,hpos,?_⟩
     simp only [auo]
     exact fM.evo hE (atG _) hpay)
 refine ⟨μ',h2,h3,?_⟩
 simp only [aA,aH,aQ]
 refine ⟨by simp,rfl,fun ob' hob=>?_⟩
 have:ob' = ob:=by simpa using hob.symm
 subst this
 refine ⟨by omega,fun _=>⟨hpm,_,_,rfl,by rw [h1];simp,by omega,fun _=>by rw [h1];simp,fun h hz0=>?_,fun _=>rfl⟩⟩
 rw [h1] at h
 simp only at h
 have:=hz hz0
 omega
theorem pushNone {C:Ctx} {K:Kx} {T:Nat→Nat→Prop} (hI:Inv C K T) (ob:Obj) (hrow:ob.row = true) (hg:ob.g = 0) (hpm:gJ ob.p = false) (hl:ah ob.p = 0) (hoc:ob.cap = none)
  {ad:Option Addr} (h0:ob.z = 0→ad = none) (h1:ob.z ≠ 0→ad.isSome = true) :
  ∃ μ',Inv C ⟨μ',K.H ++ [some ob],K.w⟩ T∧Evo T K.H.length K ⟨μ',K.H ++ [some ob],K.w⟩ ∧
   aA ⟨μ',K.H ++ [some ob],K.w⟩ T (.sl K.H.length 0 0 0) (.slice ad 0 0):=by
 obtain ⟨μ',h3,h4,h5⟩:=Inv.push (w':=K.w) hI ob ⟨0,0,0⟩ (atG _) rfl rfl rfl (fun _ _=>rfl)
  (fun h=>by rcases h with h | h <;> simp_all) (by
   intro μ' hold hm hE
   unfold fQ
   split
   ·rename_i heq;rw [heq] at hpm;simp [gJ] at hpm
   ·simp only [hm]
    exact ⟨⟨by omega,fun c hc=>by simp [hoc] at hc,fun h=>by simp [hrow] at h,fun _=>.inl rfl⟩,fun h=>absurd rfl h⟩)
 refine ⟨μ',h4,h5,?_⟩
 simp only [aA,aH,aQ]
 refine ⟨by simp,rfl,fun ob' hob=>?_⟩
 have:ob' = ob:=by simpa using hob.symm
 subst this
 exact ⟨by omega,fun _=>⟨hpm,ad,0,rfl,by rw [h3],by omega,fun h=>absurd rfl h,fun _ hz=>h0 hz,fun h=>by
  rcases h with h | h
  ·rw [h3] at h;exact absurd rfl h
  ·exact h1 h⟩⟩
theorem PX {C:Ctx} {K:Kx} {T:Nat→Nat→Prop} (hI:Inv C K T) {t:TypeId} {x:AV} {v:Value} (hv:aA K T x v) :
  ∃ μ',Inv C ⟨μ',(ak C K.H t x).2,K.w⟩ T∧Evo T K.H.length K ⟨μ',(ak C K.H t x).2,K.w⟩∧aA ⟨μ',(ak C K.H t x).2,K.w⟩ T (ak C K.H t x).1 v:=by
 unfold ak
 split
 ·rename_i e _
  simp only [aA,aH,aQ,RV,ah] at hv
  obtain ⟨ad,cap,rfl,hs,_⟩:=hv
  obtain ⟨rfl,rfl⟩:=hs.2.1 rfl
  have h1:gJ (bZ C e) = false∧ah (bZ C e) = 0:=by
   unfold bZ;split <;> exact ⟨rfl,rfl⟩
  exact pushNone hI (rowOf (bZ C e) none 0) rfl rfl h1.1 h1.2 rfl (fun _=>rfl) (fun h=>absurd rfl h)
 ·exact ⟨K.μ,hI,Evo.refl T K (atG _),hv⟩
theorem pG {H:Heap} {o j:Nat} {x:Option Obj} {ob:Obj} (h:(upd H o x)[j]? = some (some ob)):(j = o∧x = some ob)∨(j ≠ o∧H[j]? = some (some ob)):=by
 unfold upd at h
 rcases o9 h with ⟨e,h1,_⟩ | ⟨e,h1⟩
 ·exact .inl ⟨e.symm,h1.symm⟩
 ·exact .inr ⟨auf e,h1⟩
theorem yc (H:Heap) (o:Nat) (x:Option Obj):(upd H o x).length = H.length:=by simp [upd]
theorem Inv.drop {C:Ctx} {K:Kx} {T:Nat→Nat→Prop} (hI:Inv C K T) (o:Nat):Inv C ⟨K.μ,upd K.H o none,K.w⟩ T∧Evo T K.H.length K ⟨K.μ,upd K.H o none,K.w⟩:=by
 have hn:∀ ob,(upd K.H o none)[o]? ≠ some (some ob):=by
  intro ob h
  rcases pG h with ⟨_,h⟩ | ⟨h,_⟩
  ·cases h
  ·exact h rfl
 refine Inv.turn hI o (by simp [yc]) (fun j hj ob h=>?_) (atG _) rfl rfl rfl (fun _ _ _=>.inl rfl) (fun ob h=>absurd h (hn ob)) (fun _ ob h=>absurd h (hn ob)) (fun _ ob h=>absurd h (hn ob))
 rcases pG h with ⟨e,_⟩ | ⟨_,h⟩
 ·exact absurd e hj
 ·exact ⟨h,rfl⟩
theorem ZV {H:Heap} {o g:Nat} {ob:Obj} (h:live H o g = some ob):o < H.length:=(atD.1 (bQ.1 h).1).1
theorem DX.ro {C:Ctx} {K:Kx} {T:Nat→Nat→Prop} (hI:Inv C K T) {o off len g:Nat} {ob:Obj} {v:Value} {p:AV} (hob:live K.H o g = some ob) (jH:¬ ob.ids = true)
  (hs:DX (K.μ o) ob off len v) (hp:gG ob.p off len = some p) :
  ∃ ad cap,v = .slice ad (ah p) cap∧zZ (if ob.z = 0∧ah ob.p = 0 then 0 else 2) (ah p) ad cap ∧
   ∀ a,ad = some a→ah p ≠ 0→a.spot = none∧a.block = (K.μ o).blk∧Real ob (K.μ o)∧RP K.w (NT K T ob.tg) p (fun j=>K.w.cell? ⟨a.block,a.off + j,none⟩):=by
 obtain ⟨hpm,ad,cap,rfl,h1,h2,h3,h4,h5⟩:=hs
 obtain ⟨h6,h7⟩:=bQ.1 hob
 obtain ⟨hsh,hcl⟩:=(hI.obj o ob h6).open hpm
 have hlen:=Ah hp
 refine ⟨ad,cap,by rw [hlen],⟨by rw [hlen];have:=hsh.1;omega,fun hc=>?_,fun hc=>?_,fun hc=>?_⟩,fun a ha hn=>?_⟩
 ·have hz:ob.z = 0∧ah ob.p = 0:=by
   split at hc
   ·assumption
   ·cases hc
  have hC:(K.μ o).cap = 0:=by
   rcases hsh.2.2.2 hz.1 with h | h
   ·exact h
   ·exact absurd hz.2 h
  exact ⟨h4 hC hz.1,by omega⟩
 ·have hz:¬ (ob.z = 0∧ah ob.p = 0):=by
   intro h;rw [if_pos h] at hc;exact hc rfl
  by_cases hz0:ob.z = 0
  ·have:ah ob.p ≠ 0:=fun h=>hz ⟨hz0,h⟩
   exact h5 (.inl (by have:=hsh.1;omega))
  ·exact h5 (.inr hz0)
 ·split at hc <;> cases hc
 ·have hcap:cap ≠ 0:=by have:=hsh.1;omega
  have:=h3 hcap
  rw [this] at ha
  simp only [atA] at ha
  subst ha
  have hpl:ah ob.p ≠ 0:=by omega
  have hpay:=xR hI hob hpm hpl
  unfold fM at hpay
  rw [if_neg jH] at hpay
  refine ⟨rfl,rfl,.inr (by omega),jr.2 ?_⟩
  have:=(GP.sub (jr.1 hpay) hp).1
  simp only [← avy] at this
  exact this
theorem F9 {C:Ctx} {K:Kx} {T:Nat→Nat→Prop} (hI:Inv C K T) {x y:AV} {v:Value} {H':Heap} (hv:aQ K T x v) (h:oV K.H x = some (y,H')) :
  Inv C ⟨K.μ,H',K.w⟩ T∧Evo T K.H.length K ⟨K.μ,H',K.w⟩∧H'.length = K.H.length∧aQ ⟨K.μ,H',K.w⟩ T y v:=by
 unfold oV at h
 split at h
 ·rename_i o off len g
  split at h
  ·rename_i ob hob
   split at h
   ·cases h
   ·rename_i jH
    split at h
    ·rename_i p hp
     simp only [atA,atC] at h
     obtain ⟨rfl,rfl⟩:=h
     obtain ⟨hI',hE⟩:=Inv.drop hI o
     refine ⟨hI',hE,yc _ _ _,?_⟩
     simp only [aQ] at hv
     obtain ⟨h1,h2⟩:=bQ.1 hob
     obtain ⟨ad,cap,rfl,h3,h4⟩:=DX.ro hI hob jH ((hv.2.2 ob h1).2 h2) hp
     simp only [aQ,RV]
     refine ⟨ad,cap,rfl,h3,fun a ha hn=>?_⟩
     obtain ⟨h5,h6,h7,h8⟩:=h4 a ha hn
     have hO:Own K a.block:=⟨o,ob,h1,h7,h6.symm⟩
     obtain ⟨h9,h10⟩:=hI.own _ hO
     refine ⟨h5,⟨hI.mono _ _ h10,?_,h9⟩,?_⟩
     ·rintro ⟨j,ob',hj,hr,hb⟩
      rcases pG hj with ⟨_,e⟩ | ⟨hne,hj⟩
      ·cases e
      ·exact hne (hI.inj j o ob' ob hj h1 hr h7 (hb.trans h6))
     ·exact jF (fun b hb=>NT.evo hE hb) _ _ _ (fun _ _ h=>h) h8
    ·cases h
  ·cases h
 ·simp only [atA,atC] at h
  obtain ⟨rfl,rfl⟩:=h
  exact ⟨hI,Evo.refl T K (atG _),rfl,hv⟩
theorem GX {H H':Heap} {x y:AV} (h:oV H x = some (y,H')):(∃ o off len g c p t,x = .sl o off len g∧y = .ro c p t)∨(y = x∧H' = H):=by
 unfold oV at h
 split at h
 ·split at h
  ·split at h
   ·cases h
   ·split at h
    ·simp only [atA,atC] at h
     obtain ⟨rfl,_⟩:=h
     exact .inl ⟨_,_,_,_,_,_,_,rfl,rfl⟩
    ·cases h
  ·cases h
 ·simp only [atA,atC] at h
  exact .inr ⟨h.1.symm,h.2.symm⟩
theorem Gf {C:Ctx} {T:Nat→Nat→Prop}:∀ {l l':List AV} {K:Kx} {H':Heap} {r:Nat→Value},Inv C K T→(∀ (j:Nat) (a:AV),l[j]? = some a→aQ K T a (r j))→sH K.H l = some (l',H') →
  Inv C ⟨K.μ,H',K.w⟩ T∧Evo T K.H.length K ⟨K.μ,H',K.w⟩∧H'.length = K.H.length∧l'.length = l.length∧∀ (j:Nat) (a:AV),l'[j]? = some a→aQ ⟨K.μ,H',K.w⟩ T a (r j)
 | [],l',K,H',r,hI,hr,h=>by
  simp only [sH,atA,atC] at h
  obtain ⟨rfl,rfl⟩:=h
  exact ⟨hI,Evo.refl T K (atG _),rfl,rfl,by simp⟩
 | a :: t,l',K,H',r,hI,hr,h=>by
  simp only [sH] at h
  split at h
  ·rename_i a' H1 h1
   obtain ⟨i1,e1,n1,s1⟩:=F9 hI (hr 0 a rfl) h1
   split at h
   ·rename_i t' H2 h2
    simp only [atA,atC] at h
    obtain ⟨rfl,rfl⟩:=h
    have:=Gf (K:=⟨K.μ,H1,K.w⟩) (r:=fun j=>r (j + 1)) i1 (fun j b hb=>aQ.evo e1 (atG _) (hr (j + 1) b (by simpa using hb))) h2
    obtain ⟨i2,e2,n2,m2,s2⟩:=this
    refine ⟨i2,Evo.trans e1 e2 (by show K.H.length≤H1.length;omega),n2.trans n1,by simp [m2],fun j b hb=>?_⟩
    cases j with
    | zero=>simp at hb;subst hb;exact aQ.evo e2 (atG _) s1
    | succ j=>exact s2 j b (by simpa using hb)
   ·cases h
  ·cases h
theorem Gg {C:Ctx} {K:Kx} {T:Nat→Nat→Prop} (hI:Inv C K T) {x y:AV} {v:Value} {H':Heap} (hv:aH K T x v) (h:sF K.H x = some (y,H')) :
  Inv C ⟨K.μ,H',K.w⟩ T∧Evo T K.H.length K ⟨K.μ,H',K.w⟩∧H'.length = K.H.length∧aH ⟨K.μ,H',K.w⟩ T y v:=by
 unfold sF at h
 split at h
 ·rename_i l
  split at h
  ·rename_i l' H1 h1
   simp only [atA,atC] at h
   obtain ⟨rfl,rfl⟩:=h
   simp only [aH] at hv ⊢
   obtain ⟨cs,rfl,h2,h3⟩:=hv
   simp only [iM,GP] at h3
   obtain ⟨i1,e1,n1,m1,s1⟩:=Gf (r:=fun j=>cs.getD j undef) hI (fun j a ha=>by
    obtain ⟨v,h4,_,h5⟩:=h3 j a ha
    simp only [aul,h4]
    exact h5) h1
   refine ⟨i1,e1,n1,cs,rfl,by simpa [aS,ah,aO,m1] using h2,?_⟩
   simp only [iM,GP]
   intro j a ha
   have hj:=(atD.1 ha).1
   have hj':j < l.length:=by omega
   obtain ⟨v,h4,h5,_⟩:=h3 j l[j] (atB hj')
   have:=s1 j a ha
   simp only [aul,h4] at this
   exact ⟨v,h4,h5,this⟩
  ·cases h
 ·rcases GX h with ⟨o,off,len,g,c,p,t,rfl,rfl⟩ | ⟨rfl,rfl⟩
  ·simp only [aH] at hv ⊢
   exact F9 hI hv h
  ·exact ⟨hI,Evo.refl T K (atG _),rfl,hv⟩
theorem zu {l c:List AV} {i j:Nat} (h:i + c.length≤l.length):(splice l i c)[j]? = if i≤j∧j < i + c.length then c[j - i]? else l[j]?:=by
 unfold splice
 have h1:(l.take i).length = i:=by simp;omega
 by_cases hj:j < i
 ·rw [if_neg (by omega),auu,atE (by omega),auC,if_pos hj]
 ·rw [auu,atJ (by omega),h1]
  by_cases hj2:j < i + c.length
  ·rw [if_pos (by omega),atE (by omega)]
  ·rw [if_neg (by omega),atJ (by omega),au2]
   congr 1;omega
theorem zx {l c:List AV} {i:Nat} (h:i + c.length≤l.length):(splice l i c).length = l.length:=by
 unfold splice;simp;omega
section
variable {S:AV→Value→Prop}
theorem Ns (hS:∀ k n,S (.int k n) (.int k n)) {q:AV} {c:List AV} {r:Nat→Option Value} (h:GP S q r) (hc:jq q = some c) :
  c.length = aS q∧∀ (j:Nat) (a:AV),c[j]? = some a→∃ v,r j = some v∧v.oneCell' = true∧S a v:=by
 cases q <;> simp only [jq,atA,reduceCtorEq] at hc <;> subst hc <;> simp only [GP] at h
 case pb l =>
  refine ⟨by simp [aS,ah,aO],fun j a ha=>?_⟩
  simp only [atI,atU] at ha
  obtain ⟨b,hb,rfl⟩:=ha
  exact ⟨_,h j b hb,rfl,hS _ _⟩
 case pi k l =>
  refine ⟨by simp [aS,ah,aO],fun j a ha=>?_⟩
  simp only [atI,atU] at ha
  obtain ⟨b,hb,rfl⟩:=ha
  exact ⟨_,h j b hb,rfl,hS _ _⟩
 case pc l=>exact ⟨by simp [aS,ah,aO],h⟩
def over (r:Nat→Option Value) (k:Nat) (vs:List Value):Nat→Option Value:=fun j=>if k≤j∧j < k + vs.length then vs[j - k]? else r j
theorem Ub (hS:∀ k n,S (.int k n) (.int k n)) {p q p':AV} {i f:Nat} {r:Nat→Option Value} {vs:List Value} (hp:GP S p r) (hq:GP S q (fun j=>vs[j]?)) (hl:vs.length = aS q)
  (h:Ld p i f q = some p') :
  GP S p' (over r (i * aO p + f) vs)∧ah p' = ah p∧aO p' = aO p∧i * aO p + f + vs.length≤ah p * aO p:=by
 have whole:∀ {q:AV},GP S q (fun j=>vs[j]?)→vs.length = aS q→i = 0→f = 0→ah q = ah p→aO q = aO p →
   GP S q (over r (i * aO p + f) vs)∧ah q = ah p∧aO q = aO p∧i * aO p + f + vs.length≤ah p * aO p:=by
  rintro q hq hl rfl rfl h1 h2
  refine ⟨GP.within hq fun j u hj hu=>?_,h1,h2,by rw [hl,aS,h1,h2];omega⟩
  have:=(atD.1 hu).1
  simp only [over]
  rw [if_pos (by omega)]
  simpa using hu
 unfold Ld at h
 split at h
 ·split at h
  ·rename_i hc
   simp only [atA] at h;subst h
   exact whole hq hl hc.1 hc.2.1 (by simp [ah,hc.2.2]) rfl
  ·cases h
 ·split at h
  ·rename_i hc
   simp only [atA] at h;subst h
   exact whole hq hl hc.2.1 hc.2.2.1 (by simp [ah,hc.2.2.2]) rfl
  ·cases h
 ·split at h
  ·rename_i hc
   simp only [atA] at h;subst h
   exact whole hq hl hc.2.1 hc.2.2.1 (by simp [ah,hc.2.2.2]) (by simp [aO,hc.1])
  ·cases h
 ·rename_i e l _
  split at h
  ·rename_i c cs hc hcs
   split at h
   ·rename_i hle
    simp only [atA] at h;subst h
    obtain ⟨hcl,hcr⟩:=Ns hS hq hc
    simp only [GP,ah,aO] at hp ⊢
    have hi:=(atD.1 hcs).1
    obtain ⟨cs',e1,e2,h3⟩:=hp.2 _ _ hcs
    simp only [AV.pc.injEq] at e1;subst e1
    have hle2:i * e + f + vs.length≤l.length * e:=by
     have:(i + 1) * e≤l.length * e:=aue _ hi
     rw [avs] at this
     omega
    refine ⟨⟨hp.1,fun j b hb=>?_⟩,by simp,trivial,hle2⟩
    rcases o9 hb with ⟨e',rfl,_⟩ | ⟨e',hb⟩
    ·subst e'
     refine ⟨_,rfl,by rw [zx hle.1];exact e2,fun k x hk=>?_⟩
     rw [zu hle.1] at hk
     split at hk
     ·rename_i hk2
      obtain ⟨u,h4,h5⟩:=hcr _ _ hk
      refine ⟨u,?_,h5⟩
      simp only [over]
      rw [if_pos (by omega),← h4]
      congr 1;omega
     ·rename_i hk2
      obtain ⟨u,h4,h5⟩:=h3 k x hk
      refine ⟨u,?_,h5⟩
      simp only [over]
      rw [if_neg (by omega)]
      exact h4
    ·obtain ⟨cs',e1,e2',h4⟩:=hp.2 _ _ hb
     refine ⟨cs',e1,e2',fun k x hk=>?_⟩
     obtain ⟨u,h5,h6⟩:=h4 k x hk
     refine ⟨u,?_,h6⟩
     simp only [over]
     rw [if_neg ?_]
     ·exact h5
     ·have hk':=(atD.1 hk).1
      rintro ⟨h7,h8⟩
      have hlt:j * e + k < (i + 1) * e:=by rw [avs];omega
      have hge:i * e≤j * e + k:=by omega
      have d1:(j * e + k) / e = j:=by rw [auQ j e,Nat.mul_add_div hp.1,avL (by omega)];omega
      have d2:(j * e + k) / e < i + 1:=(Nat.div_lt_iff_lt_mul hp.1).2 hlt
      have d3:i≤(j * e + k) / e:=(Nat.le_div_iff_mul_le hp.1).2 hge
      omega
   ·cases h
  ·cases h
 ·rename_i l q _
  split at h
  ·rename_i c hc
   split at h
   ·rename_i hle
    simp only [atA] at h;subst h
    obtain ⟨hcl,hcr⟩:=Ns hS hq hc
    simp only [GP,ah,aO,auX] at hp ⊢
    refine ⟨fun j a ha=>?_,zx hle.1,trivial,by omega⟩
    rw [zu hle.1] at ha
    split at ha
    ·rename_i hk
     obtain ⟨u,h4,h5⟩:=hcr _ _ ha
     refine ⟨u,?_,h5⟩
     simp only [over]
     rw [if_pos (by omega),← h4]
    ·rename_i hk
     obtain ⟨u,h4,h5⟩:=hp j a ha
     refine ⟨u,?_,h5⟩
     simp only [over]
     rw [if_neg (by omega)]
     exact h4
   ·cases h
  ·cases h
 ·cases h
theorem X3 (hS:∀ k n,S (.int k n) (.int k n)) (hS':∀ k n u,S (.int k n) u→u = .int k n) {C:Ctx} {ob:Obj} {t:TypeId} {i f:Nat} {x p':AV} {r:Nat→Option Value} {v:Value} (hp:GP S ob.p r)
  (hx:(∃ q,x = .agg q∧GP S q (fun j=>v.cells[j]?)∧v.cells.size = aS q)∨(scalar x = true∧S x v∧v.oneCell' = true)) (h:zY C ob t i f x = some p') :
  GP S p' (over r (i * aO ob.p + f) v.cells.toList)∧ah p' = ah ob.p∧aO p' = aO ob.p∧i * aO ob.p + f + v.cells.size≤ah ob.p * aO ob.p∧v.cells.size = sizeT C t ∧
   (∀ u ∈ v.cells.toList,u.oneCell' = true)∧∃ d,C.P.underlying t = some d:=by
 rcases hx with ⟨q,rfl,hq,hl⟩ | ⟨hs,h1,h2⟩
 ·simp only [zY] at h
  split at h
  ·rename_i hc
   have hq':GP S q (fun j=>v.cells.toList[j]?):=by simpa using hq
   obtain ⟨h3,h4,h5,h6⟩:=Ub hS hp hq' (by simpa using hl) h
   refine ⟨h3,h4,h5,by simpa using h6,hl.trans hc.1,?_,wL hc.2.1⟩
   intro u hu
   obtain ⟨j,hj⟩:=List.getElem?_of_mem hu
   have hlt:=(atD.1 hj).1
   have hcl:v.cells.toList.length = aS q:=by simpa using hl
   rw [aS] at hcl
   obtain ⟨u',h7,h8⟩:=GP.has hq' j (by omega)
   rw [hj] at h7
   simp only [atA] at h7
   rw [h7];exact h8
  ·cases h
 ·have hc:v.cells = #[v]:=by cases v <;> first | rfl | (simp [Value.oneCell'] at h2)
  have hx:∀ q,x ≠ .agg q:=by rintro q rfl;simp [scalar] at hs
  have h':(if bf C t = false∧okT C t = true∧sizeT C t = 1∧scalar x = true then SQ ob.p i f x else none) = some p':=by
   unfold zY at h
   split at h
   ·exact absurd rfl (hx _)
   ·exact h
  split at h'
  ·rename_i hcond
   obtain ⟨h3,h4,h5,h6⟩:=GP.set hS' hp h' h1 h2
   obtain ⟨d,hd,_⟩:=qZ hcond.2.1
   refine ⟨?_,h4,h5,by rw [hc];simp;omega,by rw [hc,hcond.2.2.1];rfl,by rw [hc];simpa using h2,d,hd⟩
   rw [hc]
   have:over r (i * aO ob.p + f) #[v].toList = fun j=>if j = i * aO ob.p + f then some v else r j:=by
    funext j
    simp only [over]
    by_cases hj:j = i * aO ob.p + f
    ·rw [if_pos (by simp;omega),if_pos hj,hj];simp
    ·rw [if_neg (by simp;omega),if_neg hj]
   rw [this]
   exact h3
  ·cases h'
end
theorem Ko {C:Ctx} {w:World} {t:TypeId} {d:TypeDesc} (hu:C.P.underlying t = some d) {b o:Nat} {cur:Array Value} {E:TypeId} {v:Value} (hg:w.heap[b]? = some (.cells cur E (0,0)))
  (hs:v.cells.size = sizeT C t) (hle:o + v.cells.size≤cur.size) (h1:∀ u ∈ v.cells.toList,u.oneCell' = true) :
  (storeVar t ⟨b,o,none⟩ v).run C.P w = .ok () (w.setRow b (cur.toList.take o ++ v.cells.toList ++ cur.toList.drop (o + v.cells.size)).toArray):=by
 have:=run_storeCells_at C.P b o E v.cells.toList 0 cur w hg (by simpa using hle) h1
 simp only [ave,avM] at this
 simp [storeVar,run_sizeOf hu,hs,this]
theorem Nu {cur:Array Value} {o:Nat} {vs:List Value} (hle:o + vs.length≤cur.size) (base k:Nat) (hb:base + k = o) (j:Nat) :
  (cur.toList.take o ++ vs ++ cur.toList.drop (o + vs.length)).toArray[base + j]? = over (fun j=>cur[base + j]?) k vs j:=by
 simp only [over,List.getElem?_toArray]
 have h1:(cur.toList.take o).length = o:=by simp;omega
 by_cases hj:base + j < o
 ·rw [if_neg (by omega),auu,atE (by omega),auC,if_pos hj]
  simp
 ·rw [auu,atJ (by omega),h1]
  by_cases hj2:base + j < o + vs.length
  ·rw [if_pos (by omega),atE (by omega)]
   congr 1;omega
  ·rw [if_neg (by omega),atJ (by omega),au2]
   simp only [aun]
   congr 1;omega
theorem vg {T:Nat→Nat→Prop} (hm:∀ t b,T 0 b→T t b) {a b r:Nat} (h:dO a b = some r):(∀ x,T a x→T r x)∧(∀ x,T b x→T r x):=by
 unfold dO at h
 split at h
 ·rename_i h0
  simp only [atA] at h;subst h0;subst h
  exact ⟨fun x=>hm _ x,fun _ h=>h⟩
 ·split at h
  ·rename_i h0 h1
   simp only [atA] at h;subst h
   rcases h1 with rfl | rfl
   ·exact ⟨fun _ h=>h,fun x=>hm _ x⟩
   ·exact ⟨fun _ h=>h,fun _ h=>h⟩
  ·cases h
theorem sK {T:Nat→Nat→Prop} (hm:∀ t b,T 0 b→T t b):∀ {l:List Nat} {r:Nat},dD l = some r→∀ t ∈ l,∀ x,T t x→T r x
 | [],r,_,t,ht=>by simp at ht
 | a :: l,r,h,t,ht=>by
  simp only [dD] at h
  cases hl:dD l with
  | none=>rw [hl] at h;cases h
  | some r' =>
   rw [hl] at h
   obtain ⟨h1,h2⟩:=vg hm (show dO a r' = some r from h)
   rcases atX.1 ht with rfl | ht
   ·exact h1
   ·exact fun x hx=>h2 x (sK hm hl t ht x hx)
theorem uG:∀ {l:List AV} {a:AV},a ∈ l→∀ x,x ∈ ids a→x ∈ aC l
 | [],a,h,_,_=>by simp at h
 | b :: l,a,h,x,hx=>by
  simp only [aC,atM]
  rcases atX.1 h with rfl | h
  ·exact .inl hx
  ·exact .inr (uG h x hx)
theorem iK:∀ {l:List AV} {a:AV},a ∈ l→∀ x,x ∈ tags a→x ∈ aX l
 | [],a,h,_,_=>by simp at h
 | b :: l,a,h,x,hx=>by
  simp only [aX,atM]
  rcases atX.1 h with rfl | h
  ·exact .inl hx
  ·exact .inr (iK h x hx)
theorem aQ.rv {K:Kx} {T:Nat→Nat→Prop} {a:AV} {v:Value} {tg:Nat} (h:aQ K T a v) (hi:∀ x,x ∉ ids a) (ht:∀ t ∈ tags a,∀ x,T t x→T tg x):RV K.w (NT K T tg) a v:=by
 cases a
 case ptr o i f g=>exact absurd (by simp [ids]) (hi o)
 case sl o i f g=>exact absurd (by simp [ids]) (hi o)
 case map o g=>exact absurd (by simp [ids]) (hi o)
 case ro c p t=>exact oW (fun b hb=>⟨⟨ht t (by simp [tags]) b hb.1,hb.2⟩,fun _ _ h=>h⟩) _ _ h
 all_goals
  simp only [aQ] at h
  exact oW (fun _ h=>False.elim h) _ _ h
theorem GP.rv {K:Kx} {T:Nat→Nat→Prop} {p:AV} {r:Nat→Option Value} {tg:Nat} (h:GP (aQ K T) p r) (hi:∀ x,x ∉ ids p) (ht:∀ t ∈ tags p,∀ x,T t x→T tg x):GP (RV K.w (NT K T tg)) p r:=by
 cases p <;> simp only [GP] at h ⊢ <;> try exact h
 case pc l =>
  intro j a ha
  obtain ⟨v,h1,h2,h3⟩:=h j a ha
  have hm:=atL ha
  exact ⟨v,h1,h2,h3.rv (fun x hx=>hi x (by simp only [ids];exact uG hm x hx)) (fun t ht'=>ht t (by simp only [tags];exact iK hm t ht'))⟩
 case pr e l =>
  refine ⟨h.1,fun j a ha=>?_⟩
  obtain ⟨cs,rfl,h1,h2⟩:=h.2 j a ha
  have hm:=atL ha
  refine ⟨cs,rfl,h1,fun k b hb=>?_⟩
  obtain ⟨v,h3,h4,h5⟩:=h2 k b hb
  have hm2:=atL hb
  exact ⟨v,h3,h4,h5.rv (fun x hx=>hi x (by simp only [ids];exact uG hm x (by simp only [ids];exact uG hm2 x hx)))
   (fun t ht'=>ht t (by simp only [tags];exact iK hm t (by simp only [tags];exact iK hm2 t ht')))⟩
theorem Inv.store {C:Ctx} {K:Kx} {T:Nat→Nat→Prop} (hI:Inv C K T) {o g:Nat} {ob:Obj} {p':AV} {tg:Nat} {cur:Array Value} {E:TypeId} {k:Nat} {vs:List Value} (hob:live K.H o g = some ob)
  (hpm:gJ ob.p = false) (L8:gJ p' = false) (hlen:ah p' = ah ob.p) (acd:aO p' = aO ob.p) (hk:k + vs.length≤ah ob.p * aO ob.p) (hC:(K.μ o).cap ≠ 0)
  (hg:K.w.heap[(K.μ o).blk]? = some (.cells cur E (0,0))) (hcur:(K.μ o).base + (K.μ o).cap * aO ob.p≤cur.size)
  (hpay:fM K T { ob with p:=p',tg:=tg } (over (fun j=>cur[(K.μ o).base + j]?) k vs)) :
  Inv C ⟨K.μ,upd K.H o (some { ob with p:=p',tg:=tg }),K.w.setRow (K.μ o).blk (cur.toList.take ((K.μ o).base + k) ++ vs ++ cur.toList.drop ((K.μ o).base + k + vs.length)).toArray⟩ T ∧
   Evo T K.H.length K ⟨K.μ,upd K.H o (some { ob with p:=p',tg:=tg }),K.w.setRow (K.μ o).blk (cur.toList.take ((K.μ o).base + k) ++ vs ++ cur.toList.drop ((K.μ o).base + k + vs.length)).toArray⟩:=by
 obtain ⟨h1,h2⟩:=bQ.1 hob
 obtain ⟨hsh,hcl⟩:=(hI.obj o ob h1).open hpm
 have hlt:=(atD.1 h1).1
 have hle:ah ob.p * aO ob.p≤(K.μ o).cap * aO ob.p:=aue _ hsh.1
 have hfit:(K.μ o).base + k + vs.length≤cur.size:=by omega
 have hO:Own K (K.μ o).blk:=⟨o,ob,h1,.inr hC,rfl⟩
 have heq:∀ ob',(upd K.H o (some { ob with p:=p',tg:=tg }))[o]? = some (some ob')→ob' = { ob with p:=p',tg:=tg }:=by
  intro ob' h
  rcases pG h with ⟨_,h⟩ | ⟨h,_⟩
  ·simpa using h.symm
  ·exact absurd rfl h
 refine Inv.turn hI o (by simp [yc]) (fun j hj ob' h=>?_) (by simp) rfl rfl rfl (fun b hb hf=>.inl ?_) (fun ob' h hr=>?_) (fun _ ob' h=>?_) (fun hE ob' h=>?_)
 ·rcases pG h with ⟨e,_⟩ | ⟨_,h⟩
  ·exact absurd e hj
  ·exact ⟨h,rfl⟩
 ·exact setRow_other _ _ _ _ (auf (hf ob h1 (.inr hC)))
 ·exact ⟨.inl ⟨ob,h1,.inr hC,rfl⟩,by simpa using (hI.own _ hO).1⟩
 ·have:=heq ob' h;subst this
  exact ⟨ob,h1,atG _,fun _=>⟨rfl,acd,hlen,rfl,by simp [hpm,L8]⟩⟩
 ·have:=heq ob' h;subst this
  unfold fQ
  split
  ·rename_i heq';simp only at heq';rw [heq'] at L8;simp [gJ] at L8
  ·refine ⟨⟨by simp only [hlen];exact hsh.1,hsh.2.1,fun hr=>by simp only [hlen];exact hsh.2.2.1 hr,fun hz=>by simp only [hlen];exact hsh.2.2.2 hz⟩,fun _=>?_⟩
   refine ⟨_,E,setRow_heap _ _ _ _ _ _ hg,?_,?_,?_⟩
   ·simp only [acd,au9,atQ,auq,atZ,avM]
    omega
   ·simp only [acd]
    obtain ⟨_,_,_,_,h5,_⟩:=hcl hC
    exact h5
   ·have:(fun j=>(cur.toList.take ((K.μ o).base + k) ++ vs ++ cur.toList.drop ((K.μ o).base + k + vs.length)).toArray[(K.μ o).base + j]?) = over (fun j=>cur[(K.μ o).base + j]?) k vs:=by
     funext j
     exact Nu hfit _ _ rfl j
    rw [this]
    exact fM.evo hE (atG _) hpay
theorem X4 {q:AV} {c:List AV} (hc:jq q = some c):c.length = aS q:=by
 cases q <;> simp only [jq,atA,reduceCtorEq] at hc <;> subst hc <;> simp [aS,ah,aO]
theorem X5 {C:Ctx} {ob:Obj} {t:TypeId} {i f:Nat} {x p':AV} (h:zY C ob t i f x = some p'):ah ob.p ≠ 0:=by
 unfold zY at h
 split at h
 ·rename_i q
  split at h
  ·rename_i hc
   intro h0
   have hq:aS q ≠ 0:=by rw [hc.1];exact hc.2.2
   unfold Ld at h
   split at h
   ·split at h
    ·rename_i hl;simp_all [ah,aS];omega
    ·cases h
   ·split at h
    ·rename_i hl;simp_all [ah,aS];omega
    ·cases h
   ·split at h
    ·rename_i hl;simp_all [ah,aS];omega
    ·cases h
   ·split at h
    ·rename_i hcs
     have:=(atD.1 hcs).1
     simp_all [ah]
    ·cases h
   ·split at h
    ·rename_i hcs
     split at h
     ·rename_i hl
      have:=X4 hcs
      simp_all [ah]
     ·cases h
    ·cases h
   ·cases h
  ·cases h
 ·split at h
  ·unfold SQ at h
   split at h
   ·split at h
    ·rename_i hl;intro h0;simp_all [ah]
    ·cases h
   ·split at h
    ·rename_i hl;intro h0;simp_all [ah]
    ·cases h
   ·split at h
    ·rename_i hl;intro h0;simp_all [ah]
    ·cases h
   ·split at h
    ·rename_i hcs
     have:=(atD.1 hcs).1
     intro h0
     simp_all [ah]
    ·cases h
   ·cases h
  ·cases h
theorem aaJ {K:Kx} {T:Nat→Nat→Prop} {C:Ctx} {ob:Obj} {t:TypeId} {i f:Nat} {x p':AV} {v:Value} (h:zY C ob t i f x = some p') (hv:aA K T x v) :
  (∃ q,x = .agg q∧GP (aQ K T) q (fun j=>v.cells[j]?)∧v.cells.size = aS q)∨(scalar x = true∧aQ K T x v∧v.oneCell' = true):=by
 unfold zY at h
 split at h
 ·rename_i q
  simp only [aA,aH] at hv
  obtain ⟨cs,rfl,h1,h2⟩:=hv
  exact .inl ⟨q,rfl,h2,h1⟩
 ·split at h
  ·rename_i hc
   have:=aQ.Xn hc.2.2.2 hv
   exact .inr ⟨hc.2.2.2,this,this.cell hc.2.2.2⟩
  ·cases h
theorem Uc {C:Ctx} {K:Kx} {T:Nat→Nat→Prop} (hI:Inv C K T) {t:TypeId} {a x:AV} {va vx:Value} {H':Heap} (ha:aA K T a va) (hx:aA K T x vx) (h:yP C K.H t a x = some H') :
  ∃ w',(Instr.storeAt t va vx).run C.P K.w = .ok () w'∧Inv C ⟨K.μ,H',w'⟩ T∧Evo T K.H.length K ⟨K.μ,H',w'⟩:=by
 have put:∀ {K:Kx} {o i f g:Nat} {ob:Obj} {x p':AV} {tg:Nat} {S:AV→Value→Prop},Inv C K T→live K.H o g = some ob→aQ K T (.ptr o i f g) va →
   (∀ k n,S (.int k n) (.int k n))→(∀ k n u,S (.int k n) u→u = .int k n)→(∀ r,fM K T ob r→GP S ob.p r)→(∀ p' r,GP S p' r→fM K T { ob with p:=p',tg:=tg } r) →
   ((∃ q,x = .agg q∧GP S q (fun j=>vx.cells[j]?)∧vx.cells.size = aS q)∨(scalar x = true∧S x vx∧vx.oneCell' = true))→zY C ob t i f x = some p' →
   ∃ w',(Instr.storeAt t va vx).run C.P K.w = .ok () w'∧Inv C ⟨K.μ,upd K.H o (some { ob with p:=p',tg:=tg }),w'⟩ T∧Evo T K.H.length K ⟨K.μ,upd K.H o (some { ob with p:=p',tg:=tg }),w'⟩:=by
  intro K o i f g ob x p' tg S hI hob hv hS hS' hpay afW hx hput
  simp only [aQ] at hv
  obtain ⟨h1,h2⟩:=bQ.1 hob
  obtain ⟨hpm,rfl⟩:=(hv.2.2 ob h1).2 h2
  obtain ⟨hsh,hcl⟩:=(hI.obj o ob h1).open hpm
  have hsz0:vx.cells.size ≠ 0→ah ob.p ≠ 0→(K.μ o).cap ≠ 0:=fun _ h=>by have:=hsh.1;omega
  by_cases hn:ah ob.p = 0
  ·-- nothing can be laid into an empty payload but nothing
   exact absurd hn (X5 hput)
  ·have hC:(K.μ o).cap ≠ 0:=by have:=hsh.1;omega
   obtain ⟨cur,E,h3,h4,h5,h6⟩:=hcl hC
   obtain ⟨h7,h8,h9,h10,h11,h12,d,hd⟩:=X3 hS hS' (hpay _ h6) hx hput
   have L8:gJ p' = false:=by
    cases p' <;> simp_all [GP,gJ]
   have:=Inv.store (T:=T) (p':=p') (tg:=tg) (k:=i * aO ob.p + f) (vs:=vx.cells.toList) hI hob hpm L8 h8 h9 (by simpa using h10) hC h3 h4 (afW _ _ h7)
   refine ⟨_,?_,this⟩
   have hle:ah ob.p * aO ob.p≤(K.μ o).cap * aO ob.p:=aue _ hsh.1
   simp only [Instr.storeAt,Instr.sureAddr,Sem.run_bind,Sem.run_pure,Result.andThen_ok]
   have:=Ko hd (o:=(K.μ o).base + i * aO ob.p + f) h3 h11 (by omega) h12
   rw [this]
   simp only [avM,← avy]
 unfold yP at h
 split at h
 ·rename_i o i f g
  split at h
  ·cases h
  ·rename_i ob hob
   split at h
   ·rename_i jH
    simp only [atU] at h
    obtain ⟨p',hp',rfl⟩:=h
    have hsx:=aaJ hp' hx
    obtain ⟨w',h1,h2,h3⟩:=put (tg:=ob.tg) (S:=aQ K T) hI hob (by simpa [aA,aH] using ha) (aQ.wM K T) (fun k n u h=>by simpa [aQ,RV] using h)
     (fun r h=>by unfold fM at h;rwa [if_pos jH] at h) (fun p' r h=>by unfold fM;rw [if_pos (by exact jH)];exact h) hsx hp'
    exact ⟨w',h1,h2,h3⟩
   ·rename_i jH
    split at h
    ·cases h
    ·rename_i x1 H1 hfr
     split at h
     ·cases h
     ·rename_i ob1 aoP
      split at h
      ·rename_i hemp
       split at h
       ·cases h
       ·rename_i tv htv
        split at h
        ·cases h
        ·rename_i tg htg
         simp only [atU] at h
         obtain ⟨p',hp',rfl⟩:=h
         have hvx:aH K T x vx:=by
          cases x <;> first | (simpa only [aA] using hx) | skip
          case tup l =>
           simp only [sF,oV,atA,atC] at hfr
           obtain ⟨rfl,rfl⟩:=hfr
           simp [zY,scalar] at hp'
         obtain ⟨i1,e1,n1,s1⟩:=Gg hI hvx hfr
         have hx1:aA ⟨K.μ,H1,K.w⟩ T x1 vx:=by
          cases x1 <;> first | (simpa only [aA] using s1) | skip
          case tup l=>simp [aH,aQ,RV] at s1
         have aaK:ob1.ids ≠ true:=by rw [hemp.2];decide
         have hall:∀ y,y ∉ ids x1:=by
          intro y hy
          have:ids x1 = []:=by simpa using hemp.1
          rw [this] at hy;cases hy
         obtain ⟨j1,j2⟩:=vg hI.mono htg
         have jt:∀ t ∈ tags x1,∀ y,T t y→T tg y:=fun t ht y hy=>j2 y (sK hI.mono htv t ht y hy)
         have hsx:(∃ q,x1 = .agg q∧GP (RV K.w (NT ⟨K.μ,H1,K.w⟩ T tg)) q (fun j=>vx.cells[j]?)∧vx.cells.size = aS q)∨(scalar x1 = true∧RV K.w (NT ⟨K.μ,H1,K.w⟩ T tg) x1 vx∧vx.oneCell' = true):=by
          rcases aaJ hp' hx1 with ⟨q,rfl,h3,h4⟩ | ⟨h3,h4,h5⟩
          ·exact .inl ⟨q,rfl,GP.rv h3 (by simpa only [ids] using hall) (by simpa only [tags] using jt),h4⟩
          ·exact .inr ⟨h3,h4.rv hall jt,h5⟩
         obtain ⟨w',h3,h4,h5⟩:=put (K:=⟨K.μ,H1,K.w⟩) (tg:=tg) (S:=RV K.w (NT ⟨K.μ,H1,K.w⟩ T tg)) i1 aoP (aQ.evo e1 (atG _) (by simpa [aA,aH] using ha)) (fun k n=>by simp [RV]) (fun k n u h=>by simpa [RV] using h)
          (fun r h=>by
           unfold fM at h;rw [if_neg aaK] at h
           exact jr.1 (jF (fun b hb=>⟨⟨j1 b hb.1,hb.2⟩,fun _ _ h=>h⟩) _ _ _ (fun _ _ h=>h) h))
          (fun p' r h=>by unfold fM;rw [if_neg (by exact aaK)];exact jr.2 h) hsx hp'
         exact ⟨w',h3,h4,Evo.trans e1 h5 (by show K.H.length≤H1.length;omega)⟩
      ·cases h
 ·cases h
section
variable {P:Program} {w:World}
theorem GY {t xt ty e:TypeId} {i:TypeInfo} {dx:TypeDesc} (ht:P.underlying t = some (.slice e)) (hx:P.underlying xt = some dx) (hxi:∀ k,dx ≠ .int k) (hi:P.info? e = some i)
  {ts:Array TypeId} {vs:Array Value} (h0:ts[0]? = some t) (h1:ts[1]? = some xt) {g o sLen sCap m:Nat} {x:Value} {news:List Value} (hv0:vs[0]? = some (.slice (some ⟨g,o,none⟩) sLen sCap)) (hv1:vs[1]? = some x)
  (hlen:(Builtin.lenOf x).run P w = .ok m w) (hf:(Builtin.firstCells i.size m x).run P w = .ok news.toArray w) (hroom:sLen + m≤sCap)
  {cur:Array Value} {E:TypeId} (hg:w.heap[g]? = some (.cells cur E (0,0))) (hfit:o + sLen * i.size + news.length≤cur.size) (hone:∀ u ∈ news,u.oneCell' = true) :
  (Builtin.append_ ts ty vs).run P w = .ok (.slice (some ⟨g,o,none⟩) (sLen + m) sCap)
   (w.setRow g (cur.toList.take (o + sLen * i.size) ++ news ++ cur.toList.drop (o + sLen * i.size + news.length)).toArray):=by
 have hm:∀ (b:Bool),(match dx with | .int _=>true | _=>b) = b:=fun b=>by cases dx <;> first | rfl | exact absurd rfl (hxi _)
 have hst:=run_storeCells_at P g (o + sLen * i.size) E news 0 cur w hg (by simpa using hfit) hone
 simp only [ave] at hst
 simp [Builtin.append_,h0,h1,hv0,hv1,aY ht,aY hx,hm,sizeOf,typeInfo,hi,hlen,hroom,hf,add_lit,hst]
theorem nJ {t xt ty e:TypeId} {i:TypeInfo} {z:Value} {dx:TypeDesc} (ht:P.underlying t = some (.slice e)) (hx:P.underlying xt = some dx) (hxi:∀ k,dx ≠ .int k) (hi:P.info? e = some i) (hz:i.zero = some z)
  {ts:Array TypeId} {vs:Array Value} (h0:ts[0]? = some t) (h1:ts[1]? = some xt) {base:Option Addr} {sLen sCap m:Nat} {x:Value} {olds news:List Value} (hv0:vs[0]? = some (.slice base sLen sCap)) (hv1:vs[1]? = some x)
  (hlen:(Builtin.lenOf x).run P w = .ok m w) (hf:(Builtin.firstCells i.size m x).run P w.drew = .ok news.toArray w.drew)
  (hfo:(Builtin.firstCells i.size sLen (.slice base sLen sCap)).run P w.drew = .ok olds.toArray w.drew) (hroom:sCap < sLen + m)
  (h63:sLen + m≤4611686018427387904) (hb:(sLen + m) * i.bytes≤140737488355328) :
  (Builtin.append_ ts ty vs).run P w = .ok (.slice (some ⟨w.heap.size,0,none⟩) (sLen + m) (grownCap w (sLen + m) sCap e))
    (w.drew.alloc (.cells (olds.toArray ++ news.toArray ++ Builtin.zeroCells z.cells (grownCap w (sLen + m) sCap e - (sLen + m))) e)):=by
 have hm:∀ (b:Bool),(match dx with | .int _=>true | _=>b) = b:=fun b=>by cases dx <;> first | rfl | exact absurd rfl (hxi _)
 have hn:¬ (sLen + m≤sCap):=by omega
 have h63':¬ (9223372036854775807 < ((sLen:Int) + (m:Int))):=by omega
 have hfit:=growslice_fits hroom hb
 have h48':¬ (281474976710656 < Builtin.nextslicecap (sLen + m) sCap * i.bytes):=by omega
 simp [Builtin.append_,h0,h1,hv0,hv1,aY ht,aY hx,hm,sizeOf,typeInfo,zeroValue,hi,hz,hlen,hn,h63',h48',Question.forced,hf,hfo,newRow,grownCap]
 congr 2
 apply Array.ext'
 simp [auu]
theorem run_append_nothing {t xt ty e:TypeId} {i:TypeInfo} {dx:TypeDesc} (ht:P.underlying t = some (.slice e)) (hx:P.underlying xt = some dx) (hxi:∀ k,dx ≠ .int k) (hi:P.info? e = some i)
  {ts:Array TypeId} {vs:Array Value} (h0:ts[0]? = some t) (h1:ts[1]? = some xt) {base:Option Addr} {sLen sCap:Nat} {x:Value} (hv0:vs[0]? = some (.slice base sLen sCap)) (hv1:vs[1]? = some x)
  (hlen:(Builtin.lenOf x).run P w = .ok 0 w) (hf:(Builtin.firstCells i.size 0 x).run P w = .ok #[] w) (hroom:sLen≤sCap) :
  (Builtin.append_ ts ty vs).run P w = .ok (.slice base sLen sCap) w:=by
 have hm:∀ (b:Bool),(match dx with | .int _=>true | _=>b) = b:=fun b=>by cases dx <;> first | rfl | exact absurd rfl (hxi _)
 cases base <;> simp [Builtin.append_,h0,h1,hv0,hv1,aY ht,aY hx,hm,sizeOf,typeInfo,hi,hlen,hroom,hf,storeCells]
end
theorem wZ {p q s:AV} (h:nM p q = some s) (hn:ah q ≠ 0):aO s = aO q:=by
 unfold nM at h
 split at h
 ·simp only [atA] at h;subst h;rfl
 ·split at h
  ·simp only [atA] at h;subst h;rfl
  ·cases h
 ·simp only [atA] at h;subst h;rfl
 ·split at h
  ·rename_i he;simp only [atA] at h;subst h;exact he
  ·cases h
 ·exact absurd rfl hn
 ·simp only [atA] at h;subst h;rfl
 ·cases h
theorem lD {P:Program} {w:World} (size:Nat) (a:Option Addr) (l c:Nat):(Builtin.firstCells size 0 (.slice a l c)).run P w = .ok #[] w:=by
 cases a <;> simp [Builtin.firstCells,loadCells,loadCellsFrom]
theorem Nv {S:AV→Value→Prop} {p:AV} (h:jW p = true) (h0:ah p = 0):LP S p []:=by
 cases p <;> simp only [jW,atO] at h <;> simp only [ah] at h0 <;> simp_all [LP,GP,ah,aO]
 omega
theorem Kq {K:Kx} {T:Nat→Nat→Prop} {p:AV} {t:Nat} {r:Nat→Option Value} (h:RP K.w (NT K T t) p r):GP (RV K.w (NT K T (mO p t))) p r:=by
 cases p <;> simp only [mO] <;> first | exact jr.1 h | (simp only [RP] at h;simp only [GP];exact h)
theorem Rn {C:Ctx} {K:Kx} {T:Nat→Nat→Prop} (hI:Inv C K T) {x ys:AV} {tx:Nat} {v:Value} (hv:aA K T x v) (h:iC K.H x = some (ys,tx)) :
  ∃ news,LP (RV K.w (NT K T tx)) ys news∧(∀ u ∈ news,u.oneCell' = true)∧(∀ P w,(Builtin.lenOf v).run P w = .ok (ah ys) w) ∧
   (∀ size,(ah ys ≠ 0→size = aO ys)→∀ P w',(∀ b off,w'.cell? ⟨b,off,none⟩ = K.w.cell? ⟨b,off,none⟩)→(Builtin.firstCells size (ah ys) v).run P w' = .ok news.toArray w'):=by
 have cells:∀ {p:AV} {a:Option Addr} {cap:Nat} {N:Nat→Prop},jW p = true→(ah p ≠ 0→∃ b off,a = some ⟨b,off,none⟩∧GP (RV K.w N) p (fun j=>K.w.cell? ⟨b,off + j,none⟩)) →
   ∃ news,LP (RV K.w N) p news∧(∀ u ∈ news,u.oneCell' = true)∧(∀ P w,(Builtin.lenOf (.slice a (ah p) cap)).run P w = .ok (ah p) w) ∧
   (∀ size,(ah p ≠ 0→size = aO p)→∀ P w',(∀ b off,w'.cell? ⟨b,off,none⟩ = K.w.cell? ⟨b,off,none⟩)→(Builtin.firstCells size (ah p) (.slice a (ah p) cap)).run P w' = .ok news.toArray w'):=by
  intro p a cap N hb hp
  by_cases hn:ah p = 0
  ·refine ⟨[],Nv hb hn,by simp,fun P w=>rfl,fun size _ P w' _=>?_⟩
   rw [hn]
   exact lD _ _ _ _
  ·obtain ⟨b,off,rfl,hg⟩:=hp hn
   obtain ⟨news,h1,h2,h3⟩:=GP.list hg
   refine ⟨news,h1,h3,fun P w=>rfl,fun size hs P w' hw=>?_⟩
   refine run_firstCells_some (P:=P) w' size (ah p) ⟨b,off,none⟩ _ _ news (by rw [h1.2,hs hn]) (fun j u hu=>?_)
   rw [add_lit,hw]
   exact h2 j u hu
 unfold iC at h
 split at h
 ·rename_i s
  simp only [atA,atC] at h
  obtain ⟨rfl,rfl⟩:=h
  have:=hv.str
  subst this
  refine ⟨s.map fun b=>Value.int .u8 b.toNat,⟨?_,by simp [ah,aO]⟩,?_,fun P w=>rfl,fun size _ P w' _=>?_⟩
  ·simp only [GP]
   intro j b hb
   simp [hb]
  ·intro u hu
   simp only [aub] at hu
   obtain ⟨b,_,rfl⟩:=hu
   rfl
  ·simp only [Builtin.firstCells,Sem.run_pure,ah]
   congr 1
   have:(⟨⟨s⟩⟩:ByteArray).extract 0 s.length = ⟨⟨s⟩⟩:=by
    apply ByteArray.ext
    rw [ByteArray.data_extract]
    simp
   rw [this]
   simp
 ·rename_i c p t
  split at h
  ·rename_i hb
   simp only [atA,atC] at h
   obtain ⟨rfl,rfl⟩:=h
   simp only [aA,aH,aQ,RV] at hv
   obtain ⟨ad,cap,rfl,hs,hr⟩:=hv
   refine cells hb fun hn=>?_
   have had:ad.isSome = true:=hs.2.2.1 (fun h0=>by have:=(hs.2.1 h0).2;have:=hs.1;omega)
   obtain ⟨⟨b,off,sp⟩,rfl⟩:=aui.1 had
   obtain ⟨h1,_,h2⟩:=hr _ rfl hn
   simp only at h1 h2
   subst h1
   exact ⟨b,off,rfl,Kq h2⟩
  ·cases h
 ·rename_i o off len g
  split at h
  ·rename_i ob hob
   split at h
   ·cases h
   ·rename_i jH
    split at h
    ·rename_i p hp
     split at h
     ·rename_i hb
      simp only [atA,atC] at h
      obtain ⟨rfl,rfl⟩:=h
      simp only [aA,aH,aQ] at hv
      obtain ⟨h1,h2⟩:=bQ.1 hob
      obtain ⟨ad,cap,rfl,hs,hr⟩:=DX.ro hI hob jH ((hv.2.2 ob h1).2 h2) hp
      refine cells hb fun hn=>?_
      have had:ad.isSome = true:=by
       cases ad with
       | some _=>rfl
       | none =>
        exfalso
        have hc:¬ (ob.z = 0∧ah ob.p = 0):=by
         intro h0
         have:=(hs.2.1 (by rw [if_pos h0])).2
         have:=hs.1
         omega
        have:=hs.2.2.1 (by rw [if_neg hc];decide)
        cases this
      obtain ⟨⟨b,off',sp⟩,rfl⟩:=aui.1 had
      obtain ⟨h3,_,_,h4⟩:=hr _ rfl hn
      simp only at h3 h4
      subst h3
      exact ⟨b,off',rfl,Kq h4⟩
     ·cases h
    ·cases h
  ·cases h
 ·cases h
theorem Inv.become {C:Ctx} {K:Kx} {T:Nat→Nat→Prop} (hI:Inv C K T) {o g:Nat} {ob:Obj} (hob:live K.H o g = some ob) (ob':Obj) (m:Pl) {w':World} (hgen:ob.g < ob'.g)
  (hsz:K.w.heap.size≤w'.heap.size) (hos:w'.os = K.w.os) (htape:w'.tape = K.w.tape) (hout:w'.output = K.w.output)
  (hold:∀ b,b < K.w.heap.size→(Real ob (K.μ o)→(K.μ o).blk ≠ b)→w'.heap[b]? = K.w.heap[b]?)
  (hm:Real ob' m→((Real ob (K.μ o)∧(K.μ o).blk = m.blk)∨K.w.heap.size≤m.blk)∧m.blk < w'.heap.size)
  (DZ:∀ μ',μ' o = m→Evo T K.H.length K ⟨μ',upd K.H o (some ob'),w'⟩→fQ ⟨μ',upd K.H o (some ob'),w'⟩ T o ob') :
  ∃ μ',μ' o = m∧Inv C ⟨μ',upd K.H o (some ob'),w'⟩ T∧Evo T K.H.length K ⟨μ',upd K.H o (some ob'),w'⟩:=by
 obtain ⟨h1,h2⟩:=bQ.1 hob
 let μ':Nat→Pl:=fun j=>if j = o then m else K.μ j
 have e1:μ' o = m:=by simp [μ']
 have e2:∀ j,j ≠ o→μ' j = K.μ j:=fun j hj=>by simp [μ',hj]
 have heq:∀ x,(upd K.H o (some ob'))[o]? = some (some x)→x = ob':=by
  intro x h
  rcases pG h with ⟨_,h⟩ | ⟨h,_⟩
  ·simpa using h.symm
  ·exact absurd rfl h
 refine ⟨μ',e1,Inv.turn hI o (by simp [yc]) (fun j hj x h=>?_) hsz hos htape hout (fun b hb hf=>.inl (hold b hb (hf ob h1))) (fun x h hr=>?_) (fun _ x h=>?_) (fun hE x h=>?_)⟩
 ·rcases pG h with ⟨e,_⟩ | ⟨_,h⟩
  ·exact absurd e hj
  ·exact ⟨h,e2 j hj⟩
 ·have:=heq x h;subst this
  simp only [e1] at hr ⊢
  obtain ⟨h3,h4⟩:=hm hr
  refine ⟨?_,h4⟩
  rcases h3 with ⟨h5,h6⟩ | h5
  ·exact .inl ⟨ob,h1,h5,h6⟩
  ·exact .inr h5
 ·have:=heq x h;subst this
  exact ⟨ob,h1,Nat.le_of_lt hgen,fun e=>by omega⟩
 ·have:=heq x h;subst this
  exact DZ μ' e1 hE
theorem Ny {C:Ctx} {e:TypeId} (h:bF C e = true):∃ i z,C.P.info? e = some i∧i.zero = some z∧z.cells.size = sizeT C e∧i.size = sizeT C e∧i.bytes = bD C e:=by
 unfold bF at h
 split at h
 ·rename_i z hz
  cases hi:C.P.info? e with
  | none=>rw [hi] at hz;simp at hz
  | some i =>
   rw [hi] at hz
   simp at hz
   exact ⟨i,z,rfl,hz,by simpa using h,by simp [sizeT,hi],by simp [bD,hi]⟩
 ·cases h
theorem LP.ZW {S:AV→Value→Prop} {p:AV} {cs:List Value} (h:LP S p cs) (rest:Array Value):GP S p (fun j=>(cs.toArray ++ rest)[j]?):=by
 refine GP.imp (fun _ _ h=>h) (fun j u hu=>?_) h.1
 have:=(atD.1 hu).1
 rw [Array.getElem?_append_left (by simpa using this)]
 simpa using hu
theorem LP.mono {S S':AV→Value→Prop} {p:AV} {cs:List Value} (hS:∀ a v,S a v→S' a v) (h:LP S p cs):LP S' p cs:=⟨GP.imp hS (fun _ _ h=>h) h.1,h.2⟩
theorem X6 {p q:AV} {lo n:Nat} (h:gG p lo n = some q) (hp:aO p ≠ 0):jW q = true:=by
 cases p <;> try (simp [gG] at h;done)
 all_goals try simp only [gG] at h
 case pn =>
  cases lo with
  | succ lo=>simp at h
  | zero=>cases n with
   | succ n=>simp at h
   | zero=>simp at h;subst h;rfl
 all_goals
  split at h
  ·simp only [atA] at h
   subst h
   simp_all [jW,aO]
  ·cases h
theorem PY {C:Ctx} {K:Kx} {T:Nat→Nat→Prop} (hI:Inv C K T) {t xt ty:TypeId} {s x r:AV} {H':Heap} {vs vx:Value} {ts:Array TypeId} {args:Array Value} (hs:aA K T s vs) (hx:aA K T x vx)
  (h:bH C K.H t s x = some (r,H')) (h0:ts[0]? = some t) (h1:ts[1]? = some xt) (hok:okT C xt = true) (hni:bK C xt = false) (ha0:args[0]? = some vs) (ha1:args[1]? = some vx) :
  ∃ u w' μ',(Builtin.append_ ts ty args).run C.P K.w = .ok u w'∧Inv C ⟨μ',H',w'⟩ T∧Evo T K.H.length K ⟨μ',H',w'⟩∧aA ⟨μ',H',w'⟩ T r u:=by
 obtain ⟨dx,hdx,aoQ⟩:=qZ hok
 have hxi:∀ k,dx ≠ .int k:=by
  rintro k rfl
  unfold bK at hni
  rw [aoQ] at hni
  cases hni
 unfold bH at h
 split at h
 ·rename_i e hu
  have hu':=aW hu (by simp)
  split at h
  ·cases h
  ·rename_i hcond
   have hsz:sizeT C e ≠ 0:=fun h=>hcond (.inl h)
   have hzo:bF C e = true:=by
    cases hz:bF C e
    ·exact absurd (.inr hz) hcond
    ·rfl
   obtain ⟨i,z,hi,hz,hzs,his,hib⟩:=Ny hzo
   split at h
   ·cases h
   ·rename_i ys tx hsrc
    obtain ⟨news,hnews,hone,hlen,hcells⟩:=Rn hI hx hsrc
    have Ro:∀ b off,K.w.drew.cell? ⟨b,off,none⟩ = K.w.cell? ⟨b,off,none⟩:=fun _ _=>rfl
    split at h
    ·rename_i c p tg
     split at h
     ·rename_i hc
      obtain ⟨hc1,hpb,hroom⟩:=hc
      obtain ⟨hr1,hr2⟩:=of_decide_eq_true hroom
      simp only [aA,aH,aQ,RV] at hs
      obtain ⟨ad,cap,rfl,hsh,hrd⟩:=hs
      split at h
      ·rename_i hp0
       split at h
       ·rename_i q hq
        split at h
        ·rename_i hqe
         simp only [atA,atC] at h
         obtain ⟨rfl,rfl⟩:=h
         have hcap:cap = 0:=by
          rcases Nat.lt_or_ge c 1 with h | h
          ·exact (hsh.2.1 (by omega)).2
          ·have:=hsh.2.2.2 (by omega);omega
         subst hcap
         have hemp:LP (RV K.w (NT K T tx)) (bZ C e) []:=by
          unfold bZ
          split <;> simp [LP,GP,ah,aO]
          all_goals omega
         obtain ⟨hq1,hq2⟩:=LP.app hemp hnews hq
         simp only [at6] at hq1
         have hel:ah (bZ C e) = 0:=by unfold bZ;split <;> rfl
         rw [hel,auo] at hq2
         have rM:gJ q = false:=by have:=hq1.1;cases q <;> simp_all [GP,gJ]
         by_cases hm:ah ys = 0
         ·have hf:=hcells i.size (fun h=>absurd hm h) C.P K.w (fun _ _=>rfl)
          have hn0:news = []:=by have:=hnews.2;rw [hm] at this;simpa using this
          subst hn0
          rw [hm] at hf hlen
          obtain ⟨μ',i1,i2,i3⟩:=pushNone hI ⟨q,0,none,c,true,false,tx⟩ rfl rfl rM (by simp only;omega) rfl (ad:=ad) (fun hz=>(hsh.2.1 hz).1) (fun hz=>hsh.2.2.1 hz)
          refine ⟨_,_,μ',run_append_nothing (w:=K.w) hu' hdx hxi hi h0 h1 ha0 ha1 (hlen C.P K.w) hf (by omega),i1,i2,?_⟩
          rw [hm,hp0]
          exact i3
         ·have hse:i.size = aO ys:=by rw [his,← hqe];exact (wZ hq hm)
          have hf:=hcells i.size (fun _=>hse) C.P K.w.drew Ro
          have hfo:(Builtin.firstCells i.size (ah p) (.slice ad (ah p) 0)).run C.P K.w.drew = .ok ([]:List Value).toArray K.w.drew:=by
           rw [hp0];exact lD _ _ _ _
          have hrun:=nJ (w:=K.w) (ty:=ty) hu' hdx hxi hi hz h0 h1 ha0 ha1 (hlen C.P K.w) hf hfo (by omega) (by omega) (by rw [hib];omega)
          obtain ⟨μ',i1,i2,i3⟩:=pushRow (T:=T) (w':=K.w.drew.alloc (.cells (([]:List Value).toArray ++ news.toArray ++ Builtin.zeroCells z.cells (grownCap K.w (ah p + ah ys) 0 e - (ah p + ah ys))) e))
           (cs:=([]:List Value).toArray ++ news.toArray ++ Builtin.zeroCells z.cells (grownCap K.w (ah p + ah ys) 0 e - (ah p + ah ys))) (E:=e) (cap:=grownCap K.w (ah p + ah ys) 0 e)
           hI ⟨q,0,none,c,true,false,tx⟩ rfl rfl (fun _=>by simp only;omega) rM (by simp) rfl rfl rfl (kP K.w.drew _) (fun b hb=>alloc_old K.w.drew _ hb)
           (by simp only;rw [hq2];have:=grownCap_ge K.w (ah p + ah ys) 0 e;omega)
           (by
            have hg:=grownCap_ge K.w (ah p + ah ys) 0 e
            simp only [avV,au9,atY,auo,size_zeroCells,hzs,hqe,hnews.2]
            rw [← hse,his,← auH,hp0]
            rw [hp0] at hg
            apply aue
            omega)
           (by simp only;omega) (fun c hc=>by cases hc)
           (by
            unfold fM
            simp only [atO,if_false]
            refine jr.2 ?_
            have:=hq1.ZW (Builtin.zeroCells z.cells (grownCap K.w (ah p + ah ys) 0 e - (ah p + ah ys)))
            simpa using this)
          refine ⟨_,_,μ',hrun,i1,i2,?_⟩
          simp only [hq2] at i3
          rw [hp0,auo] at i3 ⊢
          exact i3
        ·cases h
       ·cases h
      ·rename_i hp0
       split at h
       ·rename_i hy0
        simp only [atA,atC] at h
        obtain ⟨rfl,rfl⟩:=h
        have hf:=hcells i.size (fun h=>absurd hy0 h) C.P K.w (fun _ _=>rfl)
        have hn0:news = []:=by have:=hnews.2;rw [hy0] at this;simpa using this
        subst hn0
        rw [hy0] at hf hlen
        refine ⟨_,_,K.μ,run_append_nothing (w:=K.w) hu' hdx hxi hi h0 h1 ha0 ha1 (hlen C.P K.w) hf hsh.1,hI,Evo.refl T K (atG _),?_⟩
        simp only [aA,aH,aQ,RV]
        exact ⟨ad,cap,rfl,hsh,hrd⟩
       ·rename_i hy0
        split at h
        ·rename_i hpe
         obtain ⟨hpe,rfl⟩:=hpe
         split at h
         ·rename_i q tg' hq htg
          split at h
          ·rename_i hqe
           simp only [atA,atC] at h
           obtain ⟨rfl,rfl⟩:=h
           have hcap:=hsh.2.2.2 rfl
           subst hcap
           obtain ⟨⟨b,off,sp⟩,rfl⟩:=aui.1 (hsh.2.2.1 (by decide))
           obtain ⟨r1,r2,r3⟩:=hrd _ rfl hp0
           simp only at r1 r2 r3
           subst r1
           obtain ⟨j1,j2⟩:=vg hI.mono htg
           obtain ⟨olds,ho1,ho2,ho3⟩:=GP.list (Kq r3)
           have mono:∀ {t1:Nat},(∀ x,T t1 x→T tg' x)→∀ a v,RV K.w (NT K T t1) a v→RV K.w (NT K T tg') a v:=fun hj a v h=>oW (fun b hb=>⟨⟨hj b hb.1,hb.2⟩,fun _ _ h=>h⟩) a v h
           obtain ⟨hq1,hq2⟩:=LP.app (ho1.mono (mono j1)) (hnews.mono (mono j2)) hq
           have rM:gJ q = false:=by have:=hq1.1;cases q <;> simp_all [GP,gJ]
           have hse:i.size = aO ys:=by rw [his,← hqe];exact (wZ hq hy0)
           have hf:=hcells i.size (fun _=>hse) C.P K.w.drew Ro
           have hfo:(Builtin.firstCells i.size (ah p) (.slice (some ⟨b,off,none⟩) (ah p) (ah p))).run C.P K.w.drew = .ok olds.toArray K.w.drew :=
            run_firstCells_some (P:=C.P) K.w.drew i.size (ah p) ⟨b,off,none⟩ _ _ olds (by rw [ho1.2,hpe,his]) (fun j u hu=>by rw [add_lit];exact ho2 j u hu)
           have hrun:=nJ (w:=K.w) (ty:=ty) hu' hdx hxi hi hz h0 h1 ha0 ha1 (hlen C.P K.w) hf hfo (by omega) (by omega) (by rw [hib];omega)
           obtain ⟨μ',i1,i2,i3⟩:=pushRow (T:=T) (w':=K.w.drew.alloc (.cells (olds.toArray ++ news.toArray ++ Builtin.zeroCells z.cells (grownCap K.w (ah p + ah ys) (ah p) e - (ah p + ah ys))) e))
            (cs:=olds.toArray ++ news.toArray ++ Builtin.zeroCells z.cells (grownCap K.w (ah p + ah ys) (ah p) e - (ah p + ah ys))) (E:=e) (cap:=grownCap K.w (ah p + ah ys) (ah p) e)
            hI ⟨q,0,none,1,true,false,tg'⟩ rfl rfl (fun h=>by cases h) rM (by simp) rfl rfl rfl (kP K.w.drew _) (fun b hb=>alloc_old K.w.drew _ hb)
            (by simp only;rw [hq2];exact grownCap_ge _ _ _ _)
            (by
             have hg:=grownCap_ge K.w (ah p + ah ys) (ah p) e
             simp only [avV,au9,size_zeroCells,hzs,hqe,hnews.2,ho1.2]
             rw [← hse,his,hpe,← auH,← auH]
             apply aue
             omega)
            (by simp only;omega) (fun c hc=>by cases hc)
            (by
             unfold fM
             simp only [atO,if_false]
             refine jr.2 ?_
             have:=hq1.ZW (Builtin.zeroCells z.cells (grownCap K.w (ah p + ah ys) (ah p) e - (ah p + ah ys)))
             simpa using this)
           refine ⟨_,_,μ',hrun,i1,i2,?_⟩
           simp only [hq2] at i3
           exact i3
          ·cases h
         ·cases h
        ·cases h
     ·cases h
    ·rename_i o off len g
     split at h
     ·cases h
     ·rename_i ob hob
      split at h
      ·rename_i hc
       obtain ⟨hrow,jH,aoR,hpe,hroom⟩:=hc
       obtain ⟨hr1,hr2⟩:=of_decide_eq_true hroom
       split at h
       ·cases h
       ·rename_i p0 hp0
        split at h
        ·rename_i q tg' hq htg
         split at h
         ·cases h
         ·rename_i aoS
          have hqe:aO q = sizeT C e:=by simpa using aoS
          simp only [atA,atC] at h
          obtain ⟨rfl,rfl⟩:=h
          simp only [aA,aH,aQ] at hs
          obtain ⟨ho,hg⟩:=bQ.1 hob
          obtain ⟨hpm,ad,cap,rfl,s1,s2,s3,s4,s5⟩:=(hs.2.2 ob ho).2 hg
          obtain ⟨hsh,hcl⟩:=(hI.obj o ob ho).open hpm
          obtain ⟨j1,j2⟩:=vg hI.mono htg
          have mono:∀ {t1:Nat},(∀ x,T t1 x→T tg' x)→∀ a v,RV K.w (NT K T t1) a v→RV K.w (NT K T tg') a v:=fun hj a v h=>oW (fun b hb=>⟨⟨hj b hb.1,hb.2⟩,fun _ _ h=>h⟩) a v h
          have hlen0:=Ah hp0
          let ob':Obj:={ ob with p:=q,g:=g + 1,cap:=(match ob.cap with | some c=>if off + len + ah ys≤c then some (c - off) else none | none=>none),z:=(if ah ob.p = 0 then ob.z else 1),tg:=tg' }
          have fin:∀ {K':Kx} {u:Value} {m:Pl},K'.H = upd K.H o (some ob')→K'.μ o = m→(∃ ad cap,u = .slice ad (len + ah ys) cap∧cap = m.cap∧len + ah ys≤ah q∧(cap ≠ 0→ad = some ⟨m.blk,m.base,none⟩)∧(m.cap = 0→ob'.z = 0→ad = none)∧(m.cap ≠ 0∨ob'.z ≠ 0→ad.isSome = true)) →
            gJ q = false→aA K' T (.sl o 0 (len + ah ys) (g + 1)) u:=by
           rintro K' u m hH hm ⟨ad,cap,rfl,f1,f2,f3,f4,f5⟩ rM
           simp only [aA,aH,aQ]
           refine ⟨by rw [hH,yc];exact hs.1,rfl,fun x hx=>?_⟩
           rw [hH] at hx
           have:x = ob':=by
            rcases pG hx with ⟨_,h⟩ | ⟨h,_⟩
            ·simpa using h.symm
            ·exact absurd rfl h
           subst this
           refine ⟨atG _,fun _=>⟨rM,ad,cap,rfl,by rw [hm];omega,by simp only [ob'];omega,fun hc=>by rw [f3 hc,hm];simp,fun hc hz=>f4 (by rw [← hm];exact hc) hz,fun hc=>f5 (by rw [← hm];exact hc)⟩⟩
          by_cases hC:(K.μ o).cap = 0
          ·-- no room: nothing there,and a new block if anything comes
           have hpl:ah ob.p = 0:=by have:=hsh.1;omega
           have hl0:len = 0:=by omega
           have ho0:off = 0:=by omega
           have hcap0:cap = 0:=by omega
           subst hl0;subst ho0;subst hcap0
           have aoT:LP (RV K.w (NT K T ob.tg)) p0 []:=Nv (X6 hp0 (by omega)) hlen0
           obtain ⟨hq1,hq2⟩:=LP.app (aoT.mono (mono j1)) (hnews.mono (mono j2)) hq
           simp only [at6] at hq1
           rw [hlen0,auo] at hq2
           have rM:gJ q = false:=by have:=hq1.1;cases q <;> simp_all [GP,gJ]
           have hz':ob'.z = ob.z:=by simp only [ob',hpl,if_true]
           by_cases hm:ah ys = 0
           ·have hf:=hcells i.size (fun h=>absurd hm h) C.P K.w (fun _ _=>rfl)
            have hn0:news = []:=by have:=hnews.2;rw [hm] at this;simpa using this
            subst hn0
            rw [hm] at hf hlen
            obtain ⟨μ',i0,i1,i2⟩:=Inv.become (T:=T) (w':=K.w) hI hob ob' ⟨0,0,0⟩ (by simp only [ob'];omega) (atG _) rfl rfl rfl (fun _ _ _=>rfl)
             (fun h=>by rcases h with h | h <;> simp_all [ob'])
             (fun μ' hμ hE=>by
              unfold fQ
              split
              ·rename_i heq;simp only [ob'] at heq;rw [heq] at rM;simp [gJ] at rM
              ·simp only [hμ]
               refine ⟨⟨by simp only [ob'];omega,fun c hc=>?_,fun h=>by simp [ob',hrow] at h,fun _=>.inl rfl⟩,fun h=>absurd rfl h⟩
               simp only [ob'] at hc
               cases hoc:ob.cap with
               | none=>simp [hoc] at hc
               | some c0 =>
                have:=hsh.2.1 c0 hoc
                simp only [hoc,hm] at hc
                rw [if_pos (by omega)] at hc
                simp only [atA] at hc
                simp only;omega)
            refine ⟨_,_,μ',run_append_nothing (w:=K.w) hu' hdx hxi hi h0 h1 ha0 ha1 (hlen C.P K.w) hf (by omega),i1,i2,?_⟩
            refine fin (m:=⟨0,0,0⟩) rfl i0 ⟨ad,0,by rw [hm],rfl,by omega,fun h=>absurd rfl h,fun _ hz0=>s4 hC (by rw [← hz'];exact hz0),fun h=>?_⟩ rM
            rcases h with h | h
            ·exact absurd rfl h
            ·exact s5 (.inr (by rw [← hz'];exact h))
           ·have hse:i.size = aO ys:=by rw [his,← hqe];exact (wZ hq hm)
            have hf:=hcells i.size (fun _=>hse) C.P K.w.drew Ro
            have hfo:(Builtin.firstCells i.size 0 (.slice ad 0 0)).run C.P K.w.drew = .ok ([]:List Value).toArray K.w.drew:=lD _ _ _ _
            have hrun:=nJ (w:=K.w) (ty:=ty) hu' hdx hxi hi hz h0 h1 ha0 ha1 (hlen C.P K.w) hf hfo (by omega) (by omega) (by rw [hib];omega)
            have hgc:=grownCap_ge K.w (0 + ah ys) 0 e
            obtain ⟨μ',i0,i1,i2⟩:=Inv.become (T:=T) (w':=K.w.drew.alloc (.cells (([]:List Value).toArray ++ news.toArray ++ Builtin.zeroCells z.cells (grownCap K.w (0 + ah ys) 0 e - (0 + ah ys))) e))
             hI hob ob' ⟨K.w.heap.size,0,grownCap K.w (0 + ah ys) 0 e⟩ (by simp only [ob'];omega) (by simp) rfl rfl rfl (fun b hb _=>alloc_old K.w.drew _ hb)
             (fun _=>⟨.inr (atG _),by simp⟩)
             (fun μ' hμ hE=>by
              unfold fQ
              split
              ·rename_i heq;simp only [ob'] at heq;rw [heq] at rM;simp [gJ] at rM
              ·simp only [hμ]
               refine ⟨⟨by simp only [ob'];omega,fun c hc=>?_,fun h=>by simp [ob',hrow] at h,fun _=>.inr (by simp only [ob'];omega)⟩,fun _=>⟨_,e,kP K.w.drew _,?_,by simp only [ob'];omega,?_⟩⟩
               ·simp only [ob'] at hc
                cases hoc:ob.cap with
                | none=>simp [hoc] at hc
                | some c0 =>
                 have:=hsh.2.1 c0 hoc
                 simp only [hoc] at hc
                 rw [if_neg (by omega)] at hc
                 cases hc
               ·simp only [ob',avV,au9,atY,auo,size_zeroCells,hzs,hqe,hnews.2]
                rw [← hse,his,← auH]
                apply aue
                simp only [auo] at hgc
                omega
               ·refine fM.evo hE (atG _) ?_
                unfold fM
                rw [if_neg (by simp only [ob',jH];decide)]
                refine jr.2 ?_
                have:=hq1.ZW (Builtin.zeroCells z.cells (grownCap K.w (0 + ah ys) 0 e - (0 + ah ys)))
                simpa using this)
            refine ⟨_,_,μ',hrun,i1,i2,?_⟩
            exact fin (m:=⟨K.w.heap.size,0,grownCap K.w (0 + ah ys) 0 e⟩) rfl i0 ⟨_,_,rfl,rfl,by omega,fun _=>rfl,fun h=>by simp only at h;omega,fun _=>rfl⟩ rM
          ·obtain ⟨cur,E,c1,c2,c3,c4⟩:=hcl hC
           unfold fM at c4
           rw [if_neg (by rw [jH];decide)] at c4
           have hsub:=(GP.sub (jr.1 c4) hp0).1
           have aoU:aO p0 = sizeT C e:=by rw [(GP.sub (jr.1 c4) hp0).2.2.1,hpe]
           obtain ⟨olds,ho1,ho2,ho3⟩:=GP.list hsub
           obtain ⟨hq1,hq2⟩:=LP.app (ho1.mono (mono j1)) (hnews.mono (mono j2)) hq
           rw [hlen0] at hq2
           have rM:gJ q = false:=by have:=hq1.1;cases q <;> simp_all [GP,gJ]
           have hol:olds.length = len * sizeT C e:=by rw [ho1.2,hlen0,aoU]
           have hnl:news.length = ah ys * sizeT C e:=by
            rw [hnews.2]
            by_cases hm:ah ys = 0
            ·rw [hm];simp
            ·rw [← wZ hq hm,hqe]
           have hse:ah ys ≠ 0→i.size = aO ys:=fun hm=>by rw [his,← hqe];exact (wZ hq hm)
           have hz':ob'.z ≠ 0:=by
            simp only [ob']
            split
            ·rename_i hpl
             intro hz0
             rcases hsh.2.2.2 hz0 with h | h
             ·exact hC h
             ·exact h hpl
            ·decide
           have hoc:∀ c,ob'.cap = some c→∃ c0,ob.cap = some c0∧c0 = (K.μ o).cap∧off + len + ah ys≤c0∧c = c0 - off:=by
            intro c hc
            simp only [ob'] at hc
            cases hoc:ob.cap with
            | none=>simp [hoc] at hc
            | some c0 =>
             simp only [hoc] at hc
             split at hc
             ·rename_i hle
              simp only [atA] at hc
              exact ⟨c0,rfl,hsh.2.1 c0 hoc,hle,hc.symm⟩
             ·cases hc
           by_cases ace:len + ah ys≤cap
           ·by_cases hcap:cap = 0
            ·have hm:ah ys = 0:=by omega
             have hl0:len = 0:=by omega
             have hf:=hcells i.size (fun h=>absurd hm h) C.P K.w (fun _ _=>rfl)
             have hn0:news = []:=by have:=hnews.2;rw [hm] at this;simpa using this
             subst hn0
             rw [hm] at hf hlen
             obtain ⟨μ',i0,i1,i2⟩:=Inv.become (T:=T) (w':=K.w) hI hob ob' ⟨0,0,0⟩ (by simp only [ob'];omega) (atG _) rfl rfl rfl (fun _ _ _=>rfl)
              (fun h=>by rcases h with h | h <;> simp_all [ob'])
              (fun μ' hμ hE=>by
               unfold fQ
               split
               ·rename_i heq;simp only [ob'] at heq;rw [heq] at rM;simp [gJ] at rM
               ·simp only [hμ]
                refine ⟨⟨by simp only [ob'];omega,fun c hc=>?_,fun h=>by simp [ob',hrow] at h,fun _=>.inl rfl⟩,fun h=>absurd rfl h⟩
                obtain ⟨c0,_,h2,_,h4⟩:=hoc c hc
                simp only;omega)
             refine ⟨_,_,μ',run_append_nothing (w:=K.w) hu' hdx hxi hi h0 h1 ha0 ha1 (hlen C.P K.w) hf (by omega),i1,i2,?_⟩
             exact fin (m:=⟨0,0,0⟩) rfl i0 ⟨ad,cap,by rw [hm,hl0],hcap,by omega,fun h=>absurd hcap h,fun _ hz0=>absurd hz0 hz',fun _=>s5 (.inl hC)⟩ rM
            ·have had:=s3 hcap
             subst had
             have hf:=hcells i.size hse C.P K.w (fun _ _=>rfl)
             have hCe:(off + len + ah ys) * sizeT C e≤(K.μ o).cap * sizeT C e:=aue _ (by omega)
             rw [hpe] at c2
             rw [auH,auH] at hCe
             rw [hpe] at ha0
             have hrun:=GY (w:=K.w) (ty:=ty) hu' hdx hxi hi h0 h1 ha0 ha1 (hlen C.P K.w) hf ace c1 (by rw [his];omega) hone
             have hO:Own K (K.μ o).blk:=⟨o,ob,ho,.inr hC,rfl⟩
             obtain ⟨μ',i0,i1,i2⟩:=Inv.become (T:=T) (w':=K.w.setRow (K.μ o).blk (cur.toList.take ((K.μ o).base + off * sizeT C e + len * i.size) ++ news ++ cur.toList.drop ((K.μ o).base + off * sizeT C e + len * i.size + news.length)).toArray)
              hI hob ob' ⟨(K.μ o).blk,(K.μ o).base + off * sizeT C e,(K.μ o).cap - off⟩ (by simp only [ob'];omega) (by simp) rfl rfl rfl
              (fun b hb hne=>setRow_other _ _ _ _ (auf (hne (.inr hC))))
              (fun _=>⟨.inl ⟨.inr hC,rfl⟩,by simpa using (hI.own _ hO).1⟩)
              (fun μ' hμ hE=>by
               unfold fQ
               split
               ·rename_i heq;simp only [ob'] at heq;rw [heq] at rM;simp [gJ] at rM
               ·simp only [hμ]
                refine ⟨⟨by simp only [ob'];omega,fun c hc=>?_,fun h=>by simp [ob',hrow] at h,fun h=>absurd h hz'⟩,fun _=>⟨_,E,setRow_heap _ _ _ _ _ _ c1,?_,by simp only [ob'];omega,?_⟩⟩
                ·obtain ⟨c0,_,h2,_,h4⟩:=hoc c hc
                 simp only;omega
                ·simp only [ob',hqe,au9,atQ,auq,atZ,avM]
                 have:((K.μ o).cap - off) * sizeT C e + off * sizeT C e = (K.μ o).cap * sizeT C e:=by rw [← auH];congr 1;omega
                 omega
                ·refine fM.evo hE (atG _) ?_
                 unfold fM
                 rw [if_neg (by simp only [ob',jH];decide)]
                 refine jr.2 (GP.imp (fun _ _ h=>h) (fun j u hu=>?_) hq1.1)
                 rw [Nu (by rw [his];omega) ((K.μ o).base + off * sizeT C e) (len * i.size) rfl j]
                 simp only [over,his]
                 rcases sJ hu with ⟨hj,hu⟩ | ⟨hj,hu⟩
                 ·rw [if_neg (by omega)]
                  have:=ho2 j u hu
                  rw [hpe] at this
                  rw [← this];congr 1;omega
                 ·have hlt:=(atD.1 hu).1
                  rw [if_pos (by omega),← hol]
                  exact hu)
             refine ⟨_,_,μ',hrun,i1,i2,?_⟩
             exact fin (m:=⟨(K.μ o).blk,(K.μ o).base + off * sizeT C e,(K.μ o).cap - off⟩) rfl i0 ⟨_,cap,rfl,by simp only;omega,by omega,fun _=>rfl,fun _ hz0=>absurd hz0 hz',fun _=>rfl⟩ rM
           ·have hf:=hcells i.size hse C.P K.w.drew Ro
            have hfo:(Builtin.firstCells i.size len (.slice ad len cap)).run C.P K.w.drew = .ok olds.toArray K.w.drew:=by
             by_cases hl0:len = 0
             ·have:olds = []:=by rw [hl0] at hol;simpa using hol
              rw [hl0,this]
              exact lD _ _ _ _
             ·have had:=s3 (by have:=hsh.1;omega)
              subst had
              refine run_firstCells_some (P:=C.P) K.w.drew i.size len _ _ _ olds (by rw [hol,his]) (fun j u hu=>?_)
              rw [add_lit]
              have:=ho2 j u hu
              show K.w.cell? _ = _
              simp only [World.cell?,c1]
              simp only [Option.isSome_none,atO,if_false]
              rw [← this];congr 1;omega
            have hrun:=nJ (w:=K.w) (ty:=ty) hu' hdx hxi hi hz h0 h1 ha0 ha1 (hlen C.P K.w) hf hfo (by omega) (by omega) (by rw [hib];omega)
            have hgc:=grownCap_ge K.w (len + ah ys) cap e
            obtain ⟨μ',i0,i1,i2⟩:=Inv.become (T:=T) (w':=K.w.drew.alloc (.cells (olds.toArray ++ news.toArray ++ Builtin.zeroCells z.cells (grownCap K.w (len + ah ys) cap e - (len + ah ys))) e))
             hI hob ob' ⟨K.w.heap.size,0,grownCap K.w (len + ah ys) cap e⟩ (by simp only [ob'];omega) (by simp) rfl rfl rfl (fun b hb _=>alloc_old K.w.drew _ hb)
             (fun _=>⟨.inr (atG _),by simp⟩)
             (fun μ' hμ hE=>by
              unfold fQ
              split
              ·rename_i heq;simp only [ob'] at heq;rw [heq] at rM;simp [gJ] at rM
              ·simp only [hμ]
               refine ⟨⟨by simp only [ob'];omega,fun c hc=>?_,fun h=>by simp [ob',hrow] at h,fun h=>absurd h hz'⟩,fun _=>⟨_,e,kP K.w.drew _,?_,by simp only [ob'];omega,?_⟩⟩
               ·obtain ⟨c0,_,h2,h3,h4⟩:=hoc c hc
                omega
               ·simp only [ob',avV,au9,auo,size_zeroCells,hzs,hqe,hnl,hol]
                rw [← auH,← auH]
                apply aue
                omega
               ·refine fM.evo hE (atG _) ?_
                unfold fM
                rw [if_neg (by simp only [ob',jH];decide)]
                refine jr.2 ?_
                have:=hq1.ZW (Builtin.zeroCells z.cells (grownCap K.w (len + ah ys) cap e - (len + ah ys)))
                simpa using this)
            refine ⟨_,_,μ',hrun,i1,i2,?_⟩
            exact fin (m:=⟨K.w.heap.size,0,grownCap K.w (len + ah ys) cap e⟩) rfl i0 ⟨_,_,rfl,rfl,by omega,fun _=>rfl,fun _ hz0=>absurd hz0 hz',fun _=>rfl⟩ rM
        ·cases h
      ·cases h
    ·cases h
 ·cases h
theorem AU {e:Nat} (he:0 < e):∀ {l:List AV},(∀ (j:Nat) (a:AV),l[j]? = some a→∃ cs,a = .pc cs∧cs.length = e) →
  (l.flatMap fun | .pc r=>r | _=>[]).length = l.length * e ∧
  ∀ (k:Nat) (b:AV),(l.flatMap fun | .pc r=>r | _=>[])[k]? = some b→∃ cs,l[k / e]? = some (.pc cs)∧cs[k % e]? = some b
 | [],_=>by simp
 | a :: t,h=>by
  obtain ⟨cs,rfl,hl⟩:=h 0 a rfl
  obtain ⟨h1,h2⟩:=AU he (l:=t) (fun j a ha=>h (j + 1) a (by simpa using ha))
  refine ⟨by simp only [avt,atQ,h1,hl,atV,auH];omega,fun k b hb=>?_⟩
  simp only [avt] at hb
  rcases sJ hb with ⟨hk,hb⟩ | ⟨hk,hb⟩
  ·rw [hl] at hk
   rw [avL hk,auT hk]
   exact ⟨cs,rfl,hb⟩
  ·rw [hl] at hk hb
   obtain ⟨cs',h3,h4⟩:=h2 _ b hb
   have e1:k / e = (k - e) / e + 1:=by
    rw [← Nat.add_div_right _ he,Nat.sub_add_cancel hk]
   have e2:k % e = (k - e) % e:=by
    rw [← Nat.add_mod_right (k - e) e,Nat.sub_add_cancel hk]
   rw [e1,e2]
   exact ⟨cs',by simpa using h3,h4⟩
theorem Nz {K:Kx} {T:Nat→Nat→Prop} {p:AV} {r:Nat→Option Value} (h:iM K T p r):qY K T (cellsOf p) r∧(cellsOf p).length = aS p:=by
 cases p <;> simp only [iM,GP] at h <;> try (exact h.elim)
 case pn=>exact ⟨fun j a ha=>by simp [cellsOf] at ha,by simp [cellsOf,aS,ah]⟩
 case pb l =>
  refine ⟨fun j a ha=>?_,by simp [cellsOf,aS,ah,aO]⟩
  simp only [cellsOf,atI] at ha
  cases hb:l[j]? with
  | none=>rw [hb] at ha;cases ha
  | some b =>
   rw [hb] at ha
   simp only [atF,atA] at ha
   subst ha
   exact ⟨_,h j b hb,rfl,by simp [qj,aQ,RV]⟩
 case pi k l =>
  refine ⟨fun j a ha=>?_,by simp [cellsOf,aS,ah,aO]⟩
  simp only [cellsOf,atI] at ha
  cases hb:l[j]? with
  | none=>rw [hb] at ha;cases ha
  | some b =>
   rw [hb] at ha
   simp only [atF,atA] at ha
   subst ha
   exact ⟨_,h j b hb,rfl,by simp [aQ,RV]⟩
 case pc l=>exact ⟨h,by simp [cellsOf,aS,ah,aO]⟩
 case pr e l =>
  obtain ⟨h1,h2⟩:=AU h.1 (fun j a ha=>let ⟨cs,h3,h4,_⟩:=h.2 j a ha;⟨cs,h3,h4⟩)
  refine ⟨fun j a ha=>?_,by simp only [cellsOf,aS,ah,aO];exact h1⟩
  obtain ⟨cs,h3,h4⟩:=h2 j a ha
  obtain ⟨cs',h5,h6,h7⟩:=h.2 _ _ h3
  cases h5
  have:=h7 _ _ h4
  rwa [auQ,Nat.div_add_mod] at this
theorem l9 {K:Kx} {T:Nat→Nat→Prop} {a:AV} {v:Value} (h:aA K T a v) (hs:scalars (dY a) = true) :
  qY K T (dY a) (fun j=>v.cells[j]?)∧v.cells.size = (dY a).length:=by
 cases a
 case agg p =>
  simp only [aA,aH] at h
  obtain ⟨cs,rfl,h1,h2⟩:=h
  obtain ⟨h3,h4⟩:=Nz h2
  exact ⟨h3,h1.trans h4.symm⟩
 all_goals
  simp only [dY,scalars,awe] at hs
  have hs':=hs
  have h1:=aQ.Xn hs' h
  have h2:=aQ.cell hs' h1
  have h3:v.cells = #[v]:=by cases v <;> first | rfl | (simp [Value.oneCell'] at h2)
  rw [h3]
  refine ⟨fun j a ha=>?_,by simp [dY]⟩
  simp only [dY] at ha
  cases j with
  | zero=>simp only [aud,atA] at ha;subst ha;exact ⟨v,rfl,h2,h1⟩
  | succ j=>simp at ha
theorem yF {zero:Array Value} {n k:Nat} (hk:k < n) (hz:0 < zero.size):((Array.range n).map (zero[· % zero.size]!))[k]? = zero[k % zero.size]?:=by
 rw [Array.getElem?_map,Array.getElem?_range,if_pos hk]
 have:k % zero.size < zero.size:=Nat.mod_lt _ hz
 simp [this]
theorem sO:∀ {l:List AV},scalars l = true→∀ a ∈ l,scalar a = true
 | [],_,a,h=>by simp at h
 | b :: t,hs,a,h=>by
  simp only [scalars,atS] at hs
  rcases atX.1 h with rfl | h
  ·exact hs.1
  ·exact sO hs.2 a h
theorem Kt {C:Ctx} {K:Kx} {T:Nat→Nat→Prop} {e:TypeId} {n:Nat} {p:AV} {z:Value} (hz:aA K T (bg C e) z) (h:jS C e n = some p):z.cells.size = sizeT C e:=by
 unfold jS at h
 simp only at h
 split at h
 ·rename_i hc
  exact (l9 hz hc.2.1).2.trans hc.1
 ·cases h
theorem NC {C:Ctx} {K:Kx} {T:Nat→Nat→Prop} {e:TypeId} {n:Nat} {p:AV} {z:Value} (hz:aA K T (bg C e) z) (h:jS C e n = some p) (hpos:0 < sizeT C e)
  {cs:Array Value} (hcs:∀ k,k < n * sizeT C e→cs[k]? = z.cells[k % sizeT C e]?) :
  z.cells.size = sizeT C e∧ah p = n∧aO p = sizeT C e∧gJ p = false∧RP K.w (NT K T 0) p (fun j=>cs[j]?):=by
 unfold jS at h
 simp only at h
 split at h
 ·rename_i hc
  obtain ⟨h1,h2,h3,h4⟩:=hc
  obtain ⟨h5,h6⟩:=l9 hz h2
  have hid:∀ a ∈ dY (bg C e),∀ x,x ∉ ids a:=fun a ha x hx=>by
   have:=uG ha x hx
   rw [avF] at h3
   rw [h3] at this
   simp at this
  have htg:∀ a ∈ dY (bg C e),∀ t ∈ tags a,∀ x,T t x→T 0 x:=fun a ha t ht x hx=>by
   have:=atT.1 h4 t (iK ha t ht)
   rw [beq_iff_eq] at this
   rw [this] at hx
   exact hx
  refine ⟨h6.trans h1,?_⟩
  have one:∀ a,dY (bg C e) = [a]→sizeT C e = 1∧∃ u,z.cells[0]? = some u∧u.oneCell' = true∧RV K.w (NT K T 0) a u:=by
   intro a ha
   rw [ha] at h1 h5 hid htg
   obtain ⟨u,h7,h8,h9⟩:=h5 0 a rfl
   exact ⟨h1.symm,u,h7,h8,h9.rv (fun x=>hid a (by simp) x) (fun t ht=>htg a (by simp) t ht)⟩
  have rep:∀ {α:Type} {a b:α} {j:Nat},(List.replicate n a)[j]? = some b→j < n∧b = a:=by
   intro α a b j hj
   rw [List.getElem?_replicate] at hj
   split at hj
   ·exact ⟨by assumption,by simpa using hj.symm⟩
   ·cases hj
  split at h
  ·rename_i heq
   obtain ⟨h7,u,h8,h9,h10⟩:=one _ heq
   simp only [atA] at h
   subst h
   refine ⟨by simp [ah],by simp [aO,h7],rfl,?_⟩
   simp only [RP]
   intro j b hb
   obtain ⟨hj,rfl⟩:=rep hb
   rw [hcs j (by rw [h7];omega),h7,Nat.mod_one,h8]
   simp only [RV] at h10
   rw [h10];rfl
  ·rename_i k k' m _ _ heq
   obtain ⟨h7,u,h8,h9,h10⟩:=one _ heq
   split at h
   ·rename_i hk
    subst hk
    simp only [atA] at h
    subst h
    refine ⟨by simp [ah],by simp [aO,h7],rfl,?_⟩
    simp only [RP]
    intro j b hb
    obtain ⟨hj,rfl⟩:=rep hb
    rw [hcs j (by rw [h7];omega),h7,Nat.mod_one,h8]
    simp only [RV] at h10
    rw [h10]
   ·cases h
  ·cases h
  iterate 2
   simp only [atA] at h
   subst h
   refine ⟨by simp [ah],by simp [aO],rfl,jr.2 ⟨hpos,fun j a ha=>?_⟩⟩
   obtain ⟨hj,rfl⟩:=rep ha
   refine ⟨_,rfl,h1,fun k b hb=>?_⟩
   have hk:k < sizeT C e:=by have:=(atD.1 hb).1;omega
   obtain ⟨u,h7,h8,h9⟩:=h5 k b hb
   have hm:=atL hb
   refine ⟨u,?_,h8,h9.rv (fun x=>hid b hm x) (fun t ht=>htg b hm t ht)⟩
   have hle:j * sizeT C e + sizeT C e≤n * sizeT C e:=by rw [← avs];exact aue _ hj
   show cs[j * sizeT C e + k]? = some u
   rw [hcs (j * sizeT C e + k) (by omega),auQ,Nat.mul_add_mod,auT hk]
   exact h7
  ·obtain ⟨h7,u,h8,h9,h10⟩:=one _ (by assumption)
   simp only [atA] at h
   subst h
   refine ⟨by simp [ah],by simp [aO,h7],rfl,jr.2 fun j b hb=>?_⟩
   obtain ⟨hj,rfl⟩:=rep hb
   exact ⟨u,by rw [hcs j (by rw [h7];omega),h7,Nat.mod_one,h8],h9,h10⟩
  ·cases h
 ·cases h
theorem wrap64 {n:Int} (h0:0≤n) (h1:n≤9223372036854775807):IntKind.i64.wrap n = n:=by
 simp only [IntKind.wrap,IntKind.signed,IntKind.bits]
 simp
 omega
theorem wR {C:Ctx} {K:Kx} {T:Nat→Nat→Prop} (hI:Inv C K T) {t:TypeId} {l c r:AV} {vl vc:Value} {H':Heap} (hl:aA K T l vl) (hc:aA K T c vc)
  (h:fH C K.H t l c = some (r,H')) :
  ∃ u w' μ',(Instr.makeSlice t vl vc).run C.P K.w = .ok u w'∧Inv C ⟨μ',H',w'⟩ T∧Evo T K.H.length K ⟨μ',H',w'⟩∧aA ⟨μ',H',w'⟩ T r u∧∀ b,b < K.w.heap.size→w'.heap[b]? = K.w.heap[b]?:=by
 unfold fH at h
 split at h
 ·rename_i e l c hu
  have hu':=aW hu (by simp)
  simp only [aA,aH,aQ,RV] at hl hc
  subst hl;subst hc
  split at h
  ·rename_i hcd
   obtain ⟨h1,h2,h3,h4,h5⟩:=hcd
   cases hr:jS C e l.toNat with
   | none=>rw [hr] at h;cases h
   | some p =>
    rw [hr] at h
    simp only [atF,atA,atC] at h
    obtain ⟨rfl,rfl⟩:=h
    have hne:bg C e ≠ .top:=by
     intro h0
     unfold jS at hr
     simp only [h0,dY,scalars,scalar] at hr
     simp at hr
    obtain ⟨z,_,hzv,i,hi,hzi⟩:=x9 (K:=K) (T:=T) rfl hne
    have hsz:i.size = sizeT C e:=by simp [sizeT,hi]
    have hby:i.bytes = bD C e:=by simp [bD,hi]
    have hzs:=Kt hzv hr
    have atx:(bD C e:Int) * c≤281474976710656:=by omega
    have n1:¬ (c < 0):=by omega
    have n2:¬ (281474976710656 < (i.bytes:Int) * c):=by rw [hby];omega
    have n3:¬ (l < 0):=by omega
    have n4:¬ (c < l):=by omega
    have wl:=wrap64 h1 (by omega)
    have wc:=wrap64 (show 0≤c by omega) h3
    have n5:¬ (140737488355328 < c.toNat * i.bytes):=by
     have:(c.toNat:Int) * (bD C e:Int)≤140737488355328:=by rw [Int.toNat_of_nonneg (by omega),Int.mul_comm];exact h4
     rw [hby];omega
    obtain ⟨cs,hcs,hcz,hrun⟩:∃ cs:Array Value,(∀ k,k < c.toNat * sizeT C e→cs[k]? = z.cells[k % sizeT C e]?)∧cs.size = c.toNat * sizeT C e ∧
      (Instr.makeSlice t (.int .i64 l) (.int .i64 c)).run C.P K.w = .ok (.slice (some ⟨K.w.heap.size,0,none⟩) l.toNat c.toNat) (K.w.alloc (.cells cs e)):=by
     by_cases hn:c.toNat * i.size = 0
     ·refine ⟨#[],fun k hk=>by rw [← hsz,hn] at hk;omega,by rw [← hsz,hn];rfl,?_⟩
      simp [Instr.makeSlice,aY hu',asInt,asIntOf,typeInfo,hi,sizeOf,wl,wc,n1,n2,n3,n4,hn,newRow,askRoom,roomBytes]
      refine congrArg (fun x=>K.w.alloc (Obj.cells x e)) (avQ (by simp))
     ·refine ⟨(Array.range (c.toNat * i.size)).map (z.cells[· % z.cells.size]!),fun k hk=>?_,by simp [hsz],?_⟩
      ·rw [yF (by rw [hsz];exact hk) (by rw [hzs];exact h5),hzs]
      ·simp [Instr.makeSlice,aY hu',asInt,asIntOf,typeInfo,hi,sizeOf,zeroValue,hzi,wl,wc,n1,n2,n3,n4,hn,newRow,askRoom,roomBytes]
    have hle:l.toNat≤c.toNat:=by omega
    have hle':=aue (sizeT C e) hle
    obtain ⟨_,p1,p2,p3,p4⟩:=NC hzv hr h5 (cs:=cs) (fun k hk=>hcs k (by omega))
    obtain ⟨μ',i1,i2,i3⟩:=pushRow (T:=T) (w':=K.w.alloc (.cells cs e)) (cs:=cs) (E:=e) (cap:=c.toNat) hI (rowOf p (some c.toNat) 1) rfl rfl (fun h=>by cases h) p3 (by simp) rfl rfl rfl
     (kP _ _) (fun b hb=>alloc_old _ _ hb) (by simp only [rowOf];omega) (by simp only [rowOf];rw [p2,hcz];exact atG _) (by simp only [rowOf];omega) (fun c' hc'=>by simpa [rowOf] using hc'.symm)
     (by unfold fM;simp only [rowOf,atO,if_false];exact p4)
    refine ⟨_,_,μ',hrun,i1,i2,?_,fun b hb=>alloc_old _ _ hb⟩
    simp only [rowOf,p1] at i3
    exact i3
  ·cases h
 ·cases h
theorem GZ {C:Ctx} {K:Kx} {T:Nat→Nat→Prop} (hI:Inv C K T) {t:TypeId} {l c r:AV} {vl vc:Value} {H':Heap} (hl:aA K T l vl) (hc:aA K T c vc)
  (h:fH C K.H t l c = some (r,H')) :
  ∃ u w' μ',(Instr.makeSlice t vl vc).run C.P K.w = .ok u w'∧Inv C ⟨μ',H',w'⟩ T∧Evo T K.H.length K ⟨μ',H',w'⟩∧aA ⟨μ',H',w'⟩ T r u:=by
 obtain ⟨u,w',μ',h1,h2,h3,h4,_⟩:=wR hI hl hc h
 exact ⟨u,w',μ',h1,h2,h3,h4⟩
theorem foldl_set (off:Nat):∀ (l:List Value) (i:Nat) (cells:Array Value),off + i + l.length≤cells.size →
  ((l.zipIdx i).foldl (fun (cs:Array Value) (x:Value × Nat)=>cs.setIfInBounds (off + x.2) x.1) cells).size = cells.size ∧
  ∀ k,((l.zipIdx i).foldl (fun (cs:Array Value) (x:Value × Nat)=>cs.setIfInBounds (off + x.2) x.1) cells)[k]? = if off + i≤k∧k < off + i + l.length then l[k - (off + i)]? else cells[k]?
 | [],i,cells,h=>by
  refine ⟨rfl,fun k=>?_⟩
  rw [if_neg (by simp only [atY];omega)]
  rfl
 | a :: t,i,cells,h=>by
  simp only [atV] at h
  obtain ⟨h1,h2⟩:=foldl_set off t (i + 1) (cells.setIfInBounds (off + i) a) (by simp;omega)
  simp only [List.zipIdx_cons,avO]
  refine ⟨h1.trans (by simp),fun k=>?_⟩
  rw [h2 k]
  simp only [atV]
  by_cases hk:off + i = k
  ·subst hk
   rw [if_neg (by omega),if_pos (by omega)]
   rw [Array.getElem?_setIfInBounds]
   simp
   omega
  ·rw [avN hk]
   by_cases hk2:off + (i + 1)≤k∧k < off + (i + 1) + t.length
   ·rw [if_pos hk2,if_pos (by omega)]
    rw [show k - (off + i) = (k - (off + (i + 1))) + 1 by omega]
    simp
   ·rw [if_neg hk2,if_neg (by omega)]
theorem IV {off:Nat} {v:Value} {cells:Array Value} (h:off + v.cells.size≤cells.size) :
  (v.cells.zipIdx.foldl (fun cs (x:Value × Nat)=>cs.setIfInBounds (off + x.2) x.1) cells).size = cells.size ∧
  ∀ k,(v.cells.zipIdx.foldl (fun cs (x:Value × Nat)=>cs.setIfInBounds (off + x.2) x.1) cells)[k]? = if off≤k∧k < off + v.cells.size then v.cells[k - off]? else cells[k]?:=by
 rw [← Array.foldl_toList,Array.toList_zipIdx]
 have:=foldl_set off v.cells.toList 0 cells (by simpa using h)
 simpa using this
def IW (K:Kx) (T:Nat→Nat→Prop) (place:Nat→Option (Nat × Nat)):List (Nat × Nat × AV)→List (Nat × Value)→Prop
 | [],[]=>True
 | (off,size,a) :: r,(i,v) :: s=>place i = some (off,size)∧aA K T a v∧IW K T place r s
 | _,_=>False
theorem Ku {K:Kx} {T:Nat→Nat→Prop} {place:Nat→Option (Nat × Nat)}:∀ {ps:List (Nat × Nat × AV)} {vs:List (Nat × Value)} {c c':List AV} {cells:Array Value},
  IW K T place ps vs→qY K T c (fun j=>cells[j]?)→c.length = cells.size→lX c ps = some c' →
  ∃ cells':Array Value,Instr.fill place cells vs = some cells'∧qY K T c' (fun j=>cells'[j]?)∧c'.length = cells'.size
 | [],[],c,c',cells,_,hc,hl,h=>by
  simp only [lX,atA] at h
  subst h
  exact ⟨cells,rfl,hc,hl⟩
 | (off,size,a) :: r,(i,v) :: s,c,c',cells,hp,hc,hl,h=>by
  obtain ⟨h1,h2,h3⟩:=hp
  simp only [lX] at h
  split at h
  ·rename_i hd
   obtain ⟨e1,e2,e3⟩:=hd
   obtain ⟨h4,h5⟩:=l9 h2 e3
   have hle:off + v.cells.size≤cells.size:=by omega
   obtain ⟨h6,h7⟩:=IV hle
   have afX:off + (dY a).length≤c.length:=by omega
   obtain ⟨cells',h8,h9,h10⟩:=Ku (c:=splice c off (dY a)) h3 (cells:=v.cells.zipIdx.foldl (fun cs (x:Value × Nat)=>cs.setIfInBounds (off + x.2) x.1) cells) (fun j b hb=>by
    simp only
    rw [h7 j,h5]
    rw [zu afX] at hb
    split at hb
    ·rename_i hj
     rw [if_pos hj]
     exact h4 _ b hb
    ·rename_i hj
     rw [if_neg hj]
     exact hc _ b hb) (by rw [zx afX,h6];exact hl) h
   refine ⟨cells',?_,h9,h10⟩
   simp only [Instr.fill,h1]
   rw [if_neg (by simp;omega)]
   exact h8
  ·cases h
 | [],_ :: _,_,_,_,hp,_,_,_=>by simp [IW] at hp
 | _ :: _,[],_,_,_,hp,_,_,_=>by simp [IW] at hp
def jv (K:Kx) (T:Nat→Nat→Prop):List (Nat × AV)→List (Nat × Value)→Prop
 | [],[]=>True
 | (i,a) :: r,(j,v) :: s=>i = j∧aA K T a v∧jv K T r s
 | _,_=>False
theorem Gh {C:Ctx} {t:TypeId} (h:known C t = true):∃ i,C.P.info? t = some i∧i.size = sizeT C t:=by
 unfold known at h
 obtain ⟨i,hi⟩:=aui.1 h
 exact ⟨i,hi,by simp [sizeT,hi]⟩
theorem Ud {C:Ctx} {w:World} {t:TypeId} (h:known C t = true):(sizeOf t).run C.P w = .ok (sizeT C t) w:=by
 obtain ⟨i,hi,hs⟩:=Gh h
 simp [sizeOf,typeInfo,hi,hs]
theorem run_places {C:Ctx} {w:World}:∀ (fs:List Field),fs.all (fun f=>known C f.type) = true →
  (fs.mapM fun (f:Field)=>do pure (f.offset,← sizeOf f.type)).run C.P w = .ok (fs.map fun f=>(f.offset,sizeT C f.type)) w
 | [],_=>by simp [List.mapM_nil]
 | f :: r,h=>by
  simp only [avm,atS] at h
  have hs:=Ud (w:=w) h.1
  have ih:=run_places (w:=w) r h.2
  simp only [List.mapM_cons,Sem.run_bind,hs,ih,Result.andThen_ok,Sem.run_pure,aua]
theorem Gi {C:Ctx} {K:Kx} {T:Nat→Nat→Prop} {fs:List Field}:∀ {parts:List (Nat × AV)} {vs:List (Nat × Value)} {ps:List (Nat × Nat × AV)},jv K T parts vs→uN C fs parts = some ps →
  IW K T ((fs.map fun f=>(f.offset,sizeT C f.type)).toArray[·]?) ps vs
 | [],[],ps,_,h=>by simp only [uN,atA] at h;subst h;trivial
 | (i,a) :: r,(j,v) :: s,ps,hp,h=>by
  obtain ⟨rfl,h1,h2⟩:=hp
  simp only [uN] at h
  split at h
  ·rename_i f hf
   cases hr:uN C fs r with
   | none=>rw [hr] at h;cases h
   | some q =>
    rw [hr] at h
    simp only [atF,atA] at h
    subst h
    exact ⟨by simp [hf],h1,Gi h2 hr⟩
  ·cases h
 | [],_ :: _,_,hp,_=>by simp [jv] at hp
 | _ :: _,[],_,hp,_=>by simp [jv] at hp
theorem Gj {K:Kx} {T:Nat→Nat→Prop} {n:Nat}:∀ {parts:List (Nat × AV)} {vs:List (Nat × Value)},jv K T parts vs →
  IW K T (fun i=>some (i * n,n)) (parts.map fun (i,v)=>(i * n,n,v)) vs
 | [],[],_=>by trivial
 | (i,a) :: r,(j,v) :: s,hp=>by
  obtain ⟨rfl,h1,h2⟩:=hp
  exact ⟨rfl,h1,Gj h2⟩
 | [],_ :: _,hp=>by simp [jv] at hp
 | _ :: _,[],hp=>by simp [jv] at hp
theorem Ue {C:Ctx} {K:Kx} {T:Nat→Nat→Prop} {t:TypeId} {parts:List (Nat × AV)} {vs:Array (Nat × Value)} {x:AV} (hp:jv K T parts vs.toList) (h:mJ C t parts = some x) :
  ∃ u,(Instr.build t vs).run C.P K.w = .ok u K.w∧aA K T x u:=by
 unfold mJ at h
 split at h
 ·rename_i z hz
  obtain ⟨zv,hzr,hzv,_⟩:=x9 (K:=K) (T:=T) (p:=.agg z) hz (by simp)
  split at h
  ·rename_i hsc
   obtain ⟨hc1,hc2⟩:=l9 hzv hsc
   have fin:∀ {c:List AV} {cells:Array Value},qY K T c (fun j=>cells[j]?)→c.length = cells.size→(mX C t c).map AV.agg = some x→aA K T x (.agg cells):=by
    intro c cells h1 h2 h3
    cases hm:mX C t c with
    | none=>rw [hm] at h3;cases h3
    | some p =>
     rw [hm] at h3
     simp only [atF,atA] at h3
     subst h3
     obtain ⟨h4,h5⟩:=xQ h1 hm
     simp only [aA,aH]
     exact ⟨cells,rfl,by omega,h4⟩
   split at h
   ·rename_i fs hu
    have hu':=aW hu (by simp)
    split at h
    ·rename_i hk
     cases hq:uN C fs.toList parts with
     | none=>rw [hq] at h;cases h
     | some ps =>
      rw [hq] at h
      simp only [auW] at h
      cases hf:lX (cellsOf z) ps with
      | none=>rw [hf] at h;cases h
      | some c =>
       rw [hf] at h
       simp only [auW] at h
       obtain ⟨cells,h1,h2,h3⟩:=Ku (Gi hp hq) hc1 hc2.symm hf
       refine ⟨_,?_,fin h2 h3 h⟩
       have hpl:=run_places (C:=C) (w:=K.w) fs.toList hk
       simp only [Instr.build,Sem.run_bind,hzr,Result.andThen_ok,aY hu',Array.mapM_eq_mapM_toList,Sem.run_map,hpl]
       have h1':Instr.fill (fun x=>(List.map (fun f=>(f.offset,sizeT C f.type)) fs.toList).toArray[x]?) zv.cells vs.toList = some cells:=h1
       simp only [h1',Sem.run_pure]
    ·cases h
   ·rename_i n e hu
    have hu':=aW hu (by simp)
    split at h
    ·rename_i hk
     obtain ⟨i,hi,his⟩:=Gh hk
     cases hf:lX (cellsOf z) (parts.map fun (i,v)=>(i * sizeT C e,sizeT C e,v)) with
     | none=>rw [hf] at h;cases h
     | some c =>
      rw [hf] at h
      simp only [auW] at h
      obtain ⟨cells,h1,h2,h3⟩:=Ku (Gj hp) hc1 hc2.symm hf
      refine ⟨_,?_,fin h2 h3 h⟩
      simp [Instr.build,hzr,aY hu',sizeOf,typeInfo,hi,his,h1]
    ·cases h
   ·cases h
  ·cases h
 ·cases h
theorem aH.v {K:Kx} {T:Nat→Nat→Prop} {a:AV} {v:Value} (h:aH K T a v):aA K T a v:=by
 cases a <;> first | exact h | (simp [aH,aQ,RV] at h;done)
theorem aA.v1 {K:Kx} {T:Nat→Nat→Prop} {a:AV} {v:Value} (h:aA K T a v) (hs:scalars (dY a) = true):aH K T a v:=by
 cases a <;> first | exact h | (simp [dY,scalars,scalar] at hs;done)
def ND (K:Kx) (T:Nat→Nat→Prop) (es:Nat) (l:List AV) (r:Nat→Value) (cells:Array Value):Prop :=
 cells.size = l.length * es∧∀ (j:Nat) (a:AV),l[j]? = some a→aH K T a (r j)∧(r j).cells.size = es∧∀ k,k < es→cells[j * es + k]? = (r j).cells[k]?
theorem DI {K:Kx} {T:Nat→Nat→Prop} {es:Nat}:∀ {parts:List (Nat × AV)} {vs:List (Nat × Value)} {l l':List AV} {r:Nat→Value} {cells:Array Value},
  jv K T parts vs→ND K T es l r cells→jk es l parts = some l' →
  ∃ (r':Nat→Value) (cells':Array Value),Instr.fill (fun i=>some (i * es,es)) cells vs = some cells'∧ND K T es l' r' cells'∧l'.length = l.length
 | [],[],l,l',r,cells,_,hE,h=>by
  simp only [jk,atA] at h
  subst h
  exact ⟨r,cells,rfl,hE,rfl⟩
 | (i,a) :: ps,(j,v) :: s,l,l',r,cells,hp,hE,h=>by
  obtain ⟨rfl,h1,h2⟩:=hp
  simp only [jk] at h
  split at h
  ·rename_i hc
   obtain ⟨c1,c2,c3⟩:=hc
   obtain ⟨h3,h4⟩:=l9 h1 c3
   have hle:i * es + es≤l.length * es:=by rw [← avs];exact aue _ c1
   have hv:v.cells.size = es:=h4.trans c2
   obtain ⟨h5,h6⟩:=IV (off:=i * es) (v:=v) (cells:=cells) (by rw [hv,hE.1];exact hle)
   obtain ⟨r',cells',h7,h8,h9⟩:=DI (l:=l.set i a) (r:=fun k=>if k = i then v else r k) (cells:=v.cells.zipIdx.foldl (fun cs (x:Value × Nat)=>cs.setIfInBounds (i * es + x.2) x.1) cells) h2 (by
    refine ⟨by rw [h5,hE.1];simp,fun j b hb=>?_⟩
    rcases o9 hb with ⟨e,rfl,hj⟩ | ⟨e,hb⟩
    ·subst e
     simp only [if_true]
     refine ⟨h1.v1 c3,hv,fun k hk=>?_⟩
     rw [h6,if_pos (by omega)]
     congr 1;omega
    ·simp only [if_neg (auf e)]
     obtain ⟨e1,e2,e3⟩:=hE.2 j b hb
     refine ⟨e1,e2,fun k hk=>?_⟩
     rw [h6,if_neg,e3 k hk]
     rintro ⟨g1,g2⟩
     rcases Nat.lt_or_gt_of_ne e with e | e
     ·have:=aue es (show i + 1≤j from e)
      rw [auH] at this
      omega
     ·have:=aue es (show j + 1≤i from e)
      rw [auH] at this
      omega) h
   refine ⟨r',cells',?_,h8,h9.trans (by simp)⟩
   have hsz:=hE.1
   simp only [Instr.fill]
   rw [if_neg (by simp;omega)]
   exact h7
  ·cases h
 | [],_ :: _,_,_,_,_,hp,_,_=>by simp [jv] at hp
 | _ :: _,[],_,_,_,_,hp,_,_=>by simp [jv] at hp
theorem DJ {C:Ctx} {T:Nat→Nat→Prop}:∀ {l l':List AV} {K:Kx} {H':Heap} {r:Nat→Value},Inv C K T→(∀ (j:Nat) (a:AV),l[j]? = some a→aH K T a (r j))→pV K.H l = some (l',H') →
  Inv C ⟨K.μ,H',K.w⟩ T∧Evo T K.H.length K ⟨K.μ,H',K.w⟩∧H'.length = K.H.length∧l'.length = l.length∧∀ (j:Nat) (a:AV),l'[j]? = some a→aH ⟨K.μ,H',K.w⟩ T a (r j)
 | [],l',K,H',r,hI,hr,h=>by
  simp only [pV,atA,atC] at h
  obtain ⟨rfl,rfl⟩:=h
  exact ⟨hI,Evo.refl T K (atG _),rfl,rfl,by simp⟩
 | a :: t,l',K,H',r,hI,hr,h=>by
  simp only [pV] at h
  split at h
  ·rename_i a' H1 h1
   obtain ⟨i1,e1,n1,s1⟩:=Gg hI (hr 0 a rfl) h1
   split at h
   ·rename_i t' H2 h2
    simp only [atA,atC] at h
    obtain ⟨rfl,rfl⟩:=h
    obtain ⟨i2,e2,n2,m2,s2⟩:=DJ (K:=⟨K.μ,H1,K.w⟩) (r:=fun j=>r (j + 1)) i1 (fun j b hb=>aH.evo e1 (atG _) (hr (j + 1) b (by simpa using hb))) h2
    refine ⟨i2,Evo.trans e1 e2 (by show K.H.length≤H1.length;omega),n2.trans n1,by simp [m2],fun j b hb=>?_⟩
    cases j with
    | zero=>simp at hb;subst hb;exact aH.evo e2 (atG _) s1
    | succ j=>exact s2 j b (by simpa using hb)
   ·cases h
  ·cases h
theorem IX (k:IntKind):∀ l:List Int,aC (l.map (.int k)) = []
 | []=>rfl
 | _ :: r=>by simp [aC,ids,IX k r]
theorem Gl (k:IntKind):∀ l:List Int,aX (l.map (.int k)) = []
 | []=>rfl
 | _ :: r=>by simp [aX,tags,Gl k r]
theorem DK:∀ l:List UInt8,aC (l.map qj) = []
 | []=>rfl
 | _ :: r=>by simp [aC,ids,qj,DK r]
theorem AX:∀ l:List UInt8,aX (l.map qj) = []
 | []=>rfl
 | _ :: r=>by simp [aX,tags,qj,AX r]
theorem Kv {p:AV} {r:List AV} (h:uy p = some r):aC r = ids p∧aX r = tags p:=by
 cases p <;> simp only [uy,reduceCtorEq,atA] at h <;> subst h
 case pb l=>exact ⟨DK l,AX l⟩
 case pi k l=>exact ⟨IX k l,Gl k l⟩
 case pc l=>exact ⟨rfl,rfl⟩
theorem Kw {K:Kx} {T:Nat→Nat→Prop} {p:AV} {r:List AV} {f:Nat→Option Value} (h:uy p = some r) (hp:iM K T p f):iM K T (.pc r) f:=by
 cases p <;> simp only [uy,reduceCtorEq,atA] at h <;> subst h <;> simp only [iM,GP] at hp ⊢
 case pb l =>
  intro j a ha
  rw [atI] at ha
  cases hb:l[j]? with
  | none=>rw [hb] at ha;cases ha
  | some b =>
   rw [hb] at ha
   simp only [atF,atA] at ha
   subst ha
   exact ⟨_,hp j b hb,rfl,aQ.wM _ _ _ _⟩
 case pi k l =>
  intro j a ha
  rw [atI] at ha
  cases hb:l[j]? with
  | none=>rw [hb] at ha;cases ha
  | some b =>
   rw [hb] at ha
   simp only [atF,atA] at ha
   subst ha
   exact ⟨_,hp j b hb,rfl,aQ.wM _ _ _ _⟩
 case pc l=>exact hp
theorem DL {e:Nat}:∀ {l rows:List AV},yY e l = some rows→rows.length = l.length∧aC rows = aC l∧aX rows = aX l ∧
  ∀ (j:Nat) (a:AV),rows[j]? = some a→∃ r p,a = .pc r∧r.length = e∧scalars r = true∧l[j]? = some (.agg p)∧uy p = some r
 | [],rows,h=>by simp only [yY,atA] at h;subst h;simp
 | a :: t,rows,h=>by
  unfold yY at h
  split at h
  ·rename_i heq;simp at heq
  ·rename_i p t' heq
   simp only [avb] at heq
   obtain ⟨rfl,rfl⟩:=heq
   split at h
   ·rename_i r hrc
    split at h
    ·rename_i hc
     cases hr:yY e t with
     | none=>rw [hr] at h;cases h
     | some q =>
      rw [hr] at h
      simp only [atF,atA] at h
      subst h
      obtain ⟨h1,h2,h3,h4⟩:=DL hr
      obtain ⟨i1,i2⟩:=Kv hrc
      refine ⟨by simp [h1],by simp [aC,ids,h2,i1],by simp [aX,tags,h3,i2],fun j b hb=>?_⟩
      cases j with
      | zero=>simp at hb;subst hb;exact ⟨r,p,rfl,hc.1,hc.2,rfl,hrc⟩
      | succ j=>simpa using h4 j b (by simpa using hb)
    ·cases h
   ·cases h
  ·cases h
theorem cells_one {K:Kx} {T:Nat→Nat→Prop} {a:AV} {v:Value} (h:aH K T a v) (hs:scalar a = true):v.cells = #[v]∧v.oneCell' = true∧aQ K T a v:=by
 have h1:=aQ.Xn hs h.v
 have h2:=aQ.cell hs h1
 refine ⟨?_,h2,h1⟩
 cases v <;> first | rfl | (simp [Value.oneCell'] at h2)
theorem ND.one {K:Kx} {T:Nat→Nat→Prop} {es:Nat} {l:List AV} {r:Nat→Value} {cells:Array Value} (hE:ND K T es l r cells) {j:Nat} {a:AV} (ha:l[j]? = some a) (hs:scalar a = true) :
  es = 1∧∃ v,cells[j]? = some v∧v.oneCell' = true∧aQ K T a v:=by
 obtain ⟨h1,h2,h3⟩:=hE.2 j a ha
 obtain ⟨h4,h5,h6⟩:=cells_one h1 hs
 have he:es = 1:=by rw [← h2,h4];rfl
 subst he
 refine ⟨rfl,r j,?_,h5,h6⟩
 have:=h3 0 (by omega)
 rw [h4] at this
 simpa using this
theorem IY {C:Ctx} {K:Kx} {T:Nat→Nat→Prop} {e:TypeId} {l:List AV} {r:Nat→Value} {cells:Array Value} {p:AV} (hE:ND K T (sizeT C e) l r cells) (hpos:0 < sizeT C e) (h:mkRow C e l = some p) :
  iM K T p (fun j=>cells[j]?)∧ah p = l.length∧ah p * aO p≤cells.size∧(∀ x ∈ ids p,x ∈ aC l)∧(∀ x ∈ tags p,x ∈ aX l):=by
 have flat:∀ {p:AV},ah p = l.length→aO p = 1→(∀ (j:Nat) (a:AV),l[j]? = some a→sizeT C e = 1)→ah p * aO p≤cells.size:=by
  intro p h1 h2 h3
  rw [h1,h2,hE.1]
  cases l with
  | nil=>simp
  | cons a t=>rw [h3 0 a rfl];exact atG _
 unfold mkRow at h
 have ints:∀ {k:IntKind},(tu k l).map (AV.pi k) = some p→iM K T p (fun j=>cells[j]?)∧ah p = l.length∧ah p * aO p≤cells.size∧(∀ x ∈ ids p,x ∈ aC l)∧(∀ x ∈ tags p,x ∈ aX l):=by
  intro k h
  cases hb:tu k l with
  | none=>rw [hb] at h;cases h
  | some bs =>
   rw [hb] at h
   simp only [atF,atA] at h
   subst h
   obtain ⟨h1,h2⟩:=wJ hb
   refine ⟨fun j b hj=>?_,by simpa [ah] using h1,flat (by simpa [ah] using h1) rfl (fun j a ha=>?_),by simp [ids],by simp [tags]⟩
   ·obtain ⟨_,v,h4,_,h6⟩:=hE.one (h2 j b hj) rfl
    simp only [aQ,RV] at h6
    show cells[j]? = _
    rw [h4,h6]
   ·have hj:=(atD.1 ha).1
    exact (hE.one (h2 j bs[j] (atB (by omega))) rfl).1
 split at h
 ·cases hb:jC l with
  | none=>rw [hb] at h;cases h
  | some bs =>
   rw [hb] at h
   simp only [atF,atA] at h
   subst h
   obtain ⟨h1,h2⟩:=uS hb
   refine ⟨fun j b hj=>?_,by simpa [ah] using h1,flat (by simpa [ah] using h1) rfl (fun j a ha=>?_),by simp [ids],by simp [tags]⟩
   ·obtain ⟨_,v,h4,_,h6⟩:=hE.one (h2 j b hj) rfl
    simp only [aQ,RV] at h6
    show cells[j]? = _
    rw [h4,h6]
   ·have hj:=(atD.1 ha).1
    exact (hE.one (h2 j bs[j] (atB (by omega))) rfl).1
 ·exact ints h
 iterate 2
  cases hb:yY (sizeT C e) l with
  | none=>rw [hb] at h;cases h
  | some rows =>
   rw [hb] at h
   simp only [atF,atA] at h
   subst h
   obtain ⟨h1,h2,h3,h4⟩:=DL hb
   refine ⟨⟨hpos,fun j a ha=>?_⟩,by simpa [ah] using h1,by simp only [ah,aO];rw [h1,hE.1];exact atG _,by simp [ids,h2],by simp [tags,h3]⟩
   obtain ⟨cs,p,rfl,h5,h6,h7,hrc⟩:=h4 j a ha
   obtain ⟨g1,g2,g3⟩:=hE.2 j _ h7
   simp only [aH] at g1
   obtain ⟨as,g4,g5,g6'⟩:=g1
   have g6:=Kw hrc g6'
   simp only [iM,GP] at g6
   refine ⟨cs,rfl,h5,fun k b hb=>?_⟩
   obtain ⟨v,g7,g8,g9⟩:=g6 k b hb
   refine ⟨v,?_,g8,g9⟩
   have hk:k < sizeT C e:=by have:=(atD.1 hb).1;omega
   show cells[j * sizeT C e + k]? = some v
   rw [g3 k hk,g4]
   exact g7
 ·split at h
  ·rename_i hs
   simp only [atA] at h
   subst h
   refine ⟨fun j a ha=>(hE.one ha (sO hs a (atL ha))).2,rfl,flat rfl rfl (fun j a ha=>(hE.one ha (sO hs a (atL ha))).1),by simp [ids],by simp [tags]⟩
  ·cases h
theorem IZ {C:Ctx} {K:Kx} {T:Nat→Nat→Prop} (hI:Inv C K T) {e:TypeId} {l:List AV} {r:Nat→Value} {cells:Array Value} {x:AV} (hE:ND K T (sizeT C e) l r cells) (hpos:0 < sizeT C e) (h:qP C e l = some x)
  (hid:aC l = []):Inv C ⟨K.μ,K.H,K.w.alloc (.cells cells e)⟩ T∧Evo T K.H.length K ⟨K.μ,K.H,K.w.alloc (.cells cells e)⟩ ∧
   aA ⟨K.μ,K.H,K.w.alloc (.cells cells e)⟩ T x (.slice (some ⟨K.w.heap.size,0,none⟩) l.length l.length):=by
 unfold qP at h
 split at h
 ·rename_i p tg hp ht
  simp only [atA] at h
  subst h
  obtain ⟨h1,h2,h3,h4,h5⟩:=IY hE hpos hp
  obtain ⟨i1,e1⟩:=Inv.world (w':=K.w.alloc (.cells cells e)) hI (by simp) rfl rfl rfl (fun b hb=>.inl (alloc_old _ _ hb))
  refine ⟨i1,e1,?_⟩
  simp only [aA,aH,aQ,RV]
  refine ⟨_,_,by rw [h2],⟨by omega,fun h=>absurd h (by decide),fun _=>rfl,fun _=>h2.symm⟩,fun a ha hn=>?_⟩
  simp only [atA] at ha
  subst ha
  have hj:=sK hI.mono ht
  have hr:GP (RV K.w (NT K T tg)) p (fun j=>cells[j]?):=GP.rv h1 (fun x hx=>by have:=h4 x hx;rw [hid] at this;simp at this) (fun t ht'=>hj t (h5 t ht'))
  refine ⟨rfl,⟨hI.mono _ _ (hI.new _ (atG _)),?_,by simp⟩,?_⟩
  ·rintro ⟨o,ob,ho,hR,hb⟩
   have:=(hI.own _ ⟨o,ob,ho,hR,hb⟩).1
   exact absurd this (Nat.lt_irrefl _)
  ·refine jF (fun b hb=>NT.evo e1 hb) p _ _ (fun j u hu=>?_) (jr.2 hr)
   simp only [World.cell?,kP,auo]
   simpa using hu
 ·cases h
theorem run_buildSlice {C:Ctx} {w:World} {t e:TypeId} (hu:C.P.underlying t = some (.slice e)) {n:Nat} {vs:Array (Nat × Value)} {z:Value} {cells':Array Value} (hz:(zeroValue e).run C.P w = .ok z w) (hpos:0 < sizeT C e)
  (hle:n * sizeT C e≤16777216) (hf:Instr.fill (fun i=>some (i * sizeT C e,sizeT C e)) ((Array.range (n * sizeT C e)).map ((if n * sizeT C e = 0 then #[] else z.cells)[· % (if n * sizeT C e = 0 then #[] else z.cells).size]!)) vs.toList = some cells') :
  (Instr.buildSlice t n vs).run C.P w = .ok (.slice (some ⟨w.heap.size,0,none⟩) n n) (w.alloc (.cells cells' e)):=by
 have hle':¬ (16777216 < n * sizeT C e):=by omega
 by_cases hn:n * sizeT C e = 0
 ·have e0:∀ f:Nat→Value,(Array.range 0).map f = #[]:=fun f=>avQ (by simp)
  simp only [hn,e0] at hf
  simp [Instr.buildSlice,aY hu,gY (show sizeT C e ≠ 0 by omega),hn,newRow,e0,hf]
 ·simp only [hn,if_false] at hf
  have hn2:¬ (n = 0∨sizeT C e = 0):=fun h=>hn (by rcases h with h | h <;> simp [h])
  simp only [Instr.buildSlice,Sem.run_bind,aY hu,gY (show sizeT C e ≠ 0 by omega),Result.andThen_ok]
  rw [if_neg (by omega)]
  simp only [hn,if_false,Sem.run_bind,Sem.run_pure,hz,Result.andThen_ok,hf,newRow]
  simp
theorem Gm {C:Ctx} {K:Kx} {T:Nat→Nat→Prop} (hI:Inv C K T) {t:TypeId} {n:Nat} {parts:List (Nat × AV)} {vs:Array (Nat × Value)} {x:AV} {H':Heap} (hp:jv K T parts vs.toList)
  (h:bT C K.H t n parts = some (x,H')) :
  ∃ u w' μ',(Instr.buildSlice t n vs).run C.P K.w = .ok u w'∧Inv C ⟨μ',H',w'⟩ T∧Evo T K.H.length K ⟨μ',H',w'⟩∧aA ⟨μ',H',w'⟩ T x u:=by
 unfold bT at h
 split at h
 ·rename_i e hu
  have hu':=aW hu (by simp)
  split at h
  ·rename_i hc
   obtain ⟨hle,hpos,hzl,hzs⟩:=hc
   have hne:bg C e ≠ .top:=by
    intro h0
    rw [h0] at hzs
    simp [dY,scalars,scalar] at hzs
   obtain ⟨z,hz,hzv,_⟩:=x9 (K:=K) (T:=T) rfl hne
   obtain ⟨_,hz2⟩:=l9 hzv hzs
   have afY:z.cells.size = sizeT C e:=hz2.trans hzl
   split at h
   ·cases h
   ·rename_i l hsp
    have hE0:ND K T (sizeT C e) (List.replicate n (bg C e)) (fun _=>z) ((Array.range (n * sizeT C e)).map ((if n * sizeT C e = 0 then #[] else z.cells)[· % (if n * sizeT C e = 0 then #[] else z.cells).size]!)):=by
     refine ⟨by simp,fun j a ha=>?_⟩
     have hj:j < n:=by have:=(atD.1 ha).1;simpa using this
     have ha':a = bg C e:=by
      rw [List.getElem?_replicate,if_pos hj] at ha
      simpa using ha.symm
     subst ha'
     refine ⟨hzv.v1 hzs,afY,fun k hk=>?_⟩
     have hlt:j * sizeT C e + k < n * sizeT C e:=by
      have:=aue (sizeT C e) (show j + 1≤n from hj)
      rw [auH] at this
      omega
     rw [if_neg (by omega),yF hlt (by omega),afY,auQ,Nat.mul_add_mod,auT hk]
    obtain ⟨r,cells,hf,hE,hlen⟩:=DI hp hE0 hsp
    have hlen':l.length = n:=by simpa using hlen
    have hrun:=run_buildSlice hu' hz hpos hle hf
    split at h
    ·rename_i hid
     cases hl:qP C e l with
     | none=>rw [hl] at h;cases h
     | some v =>
      rw [hl] at h
      simp only [atF,atA,atC] at h
      obtain ⟨rfl,rfl⟩:=h
      obtain ⟨i1,e1,v1⟩:=IZ hI hE hpos hl (avF.1 hid)
      rw [hlen'] at v1
      exact ⟨_,_,_,hrun,i1,e1,v1⟩
    ·split at h
     ·cases h
     ·split at h
      ·cases h
      ·rename_i l' H1 hfr
       obtain ⟨i2,e2,n2,m2,s2⟩:=DJ (r:=r) hI (fun j a ha=>(hE.2 j a ha).1) hfr
       have hE2:ND ⟨K.μ,H1,K.w⟩ T (sizeT C e) l' r cells:=by
        refine ⟨by rw [hE.1,m2],fun j a ha=>⟨s2 j a ha,?_⟩⟩
        have hj:=(atD.1 ha).1
        exact (hE.2 j l[j] (atB (by omega))).2
       split at h
       ·rename_i hid
        cases hl:qP C e l' with
        | none=>rw [hl] at h;cases h
        | some v =>
         rw [hl] at h
         simp only [atF,atA,atC] at h
         obtain ⟨rfl,rfl⟩:=h
         obtain ⟨i1,e1,v1⟩:=IZ i2 hE2 hpos hl (avF.1 hid)
         rw [m2,hlen'] at v1
         exact ⟨_,_,_,hrun,i1,Evo.trans e2 e1 (by show K.H.length≤H1.length;omega),v1⟩
       ·cases hl:mkRow C e l' with
        | none=>rw [hl] at h;cases h
        | some p =>
         rw [hl] at h
         simp only [atF,atA,atC] at h
         obtain ⟨rfl,rfl⟩:=h
         obtain ⟨h1,h2,h3,h4,h5⟩:=IY hE2 hpos hl
         have h2':ah p = n:=by omega
         obtain ⟨hpos',hpm⟩:=h1.pos
         obtain ⟨μ',g1,g2,g3⟩:=pushRow (K:=⟨K.μ,H1,K.w⟩) (T:=T) (w':=K.w.alloc (.cells cells e)) (cs:=cells) (E:=e) (cap:=n) i2 ⟨p,0,some n,1,true,true,0⟩ rfl rfl (fun h=>by cases h) hpm (by simp) rfl rfl rfl
          (kP _ _) (fun b hb=>alloc_old _ _ hb) (by simp only;omega) (by simp only;rw [← h2'];exact h3) hpos' (fun c' hc'=>by simpa using hc'.symm)
          (by unfold fM;simp only [if_true];exact h1)
         refine ⟨_,_,μ',hrun,g1,Evo.trans e2 g2 (by show K.H.length≤H1.length;omega),?_⟩
         simp only [h2'] at g3
         exact g3
  ·cases h
 ·cases h
def eU (K:Kx) (T:Nat→Nat→Prop):List AV→List Value→Prop
 | [],[]=>True
 | a :: r,v :: s=>aA K T a v∧eU K T r s
 | _,_=>False
theorem eU.nil {K:Kx} {T:Nat→Nat→Prop} {vs:List Value} (h:eU K T [] vs):vs = []:=by
 cases vs with
 | nil=>rfl
 | cons=>exact h.elim
theorem eU.cons {K:Kx} {T:Nat→Nat→Prop} {a:AV} {r:List AV} {vs:List Value} (h:eU K T (a :: r) vs):∃ v s,vs = v :: s∧aA K T a v∧eU K T r s:=by
 cases vs with
 | nil=>exact h.elim
 | cons v s=>exact ⟨v,s,rfl,h⟩
theorem CV {P:Program} {w:World} {K:Kx} {T:Nat→Nat→Prop}:∀ {l:List AV} {x r:AV} {v:Value} {vs:List Value},aA K T x v→eU K T l vs→∀ b,kE b x l = some r →
  ∃ u,(vs.foldlM (if b then Builtin.max2 else Builtin.min2) v).run P w = .ok u w∧aA K T r u
 | [],x,r,v,vs,hv,ha,b,h=>by
  rw [ha.nil]
  unfold kE at h
  simp only [atA] at h
  subst h
  exact ⟨v,by simp,hv⟩
 | y :: l,x,r,v,vs,hv,ha,b,h=>by
  obtain ⟨u,s,rfl,hu,hs⟩:=ha.cons
  unfold kE at h
  split at h
  ·rename_i heq;cases heq
  ·rename_i k n k' m t heq
   simp only [avb] at heq
   obtain ⟨rfl,rfl⟩:=heq
   split at h
   ·rename_i hk
    subst hk
    rw [hv.int,hu.int]
    obtain ⟨z,h1,h2⟩:=CV (P:=P) (w:=w) (K:=K) (T:=T) (v:=.int k (if b then (if m > n then m else n) else (if m < n then m else n))) (by simp [aA,aH,aQ,RV]) hs b h
    refine ⟨z,?_,h2⟩
    cases b
    ·simp only [atO,if_false] at h1 ⊢
     simp only [List.foldlM_cons,Sem.run_bind,Builtin.min2,Sem.run_pure,Result.andThen_ok]
     exact h1
    ·simp only [if_true] at h1 ⊢
     simp only [List.foldlM_cons,Sem.run_bind,Builtin.max2,Sem.run_pure,Result.andThen_ok]
     exact h1
   ·cases h
  ·cases h
theorem X7 {C:Ctx} {K:Kx} {T:Nat→Nat→Prop} (hI:Inv C K T) {t ty:TypeId} {s x r:AV} {H':Heap} {vs vx:Value} {ts:Array TypeId} {args:Array Value} (hs:aA K T s vs) (hx:aA K T x vx)
  (h:copyV C K.H t s x = some (r,H')) (h0:ts[0]? = some t) (ha0:args[0]? = some vs) (ha1:args[1]? = some vx) :
  ∃ u w',(Builtin.copy_ ts ty args).run C.P K.w = .ok u w'∧Inv C ⟨K.μ,H',w'⟩ T∧Evo T K.H.length K ⟨K.μ,H',w'⟩∧aA ⟨K.μ,H',w'⟩ T r u:=by
 unfold copyV at h
 split at h
 ·rename_i e hu
  have hu':=aW hu (by simp)
  split at h
  ·rename_i o off len g c l tg
   split at h
   ·rename_i ob hob
    split at h
    ·rename_i m hm
     split at h
     ·rename_i hc
      obtain ⟨jH,hsz,hok,hle,hpos,hfit⟩:=hc
      simp only [atA,atC] at h
      obtain ⟨rfl,rfl⟩:=h
      obtain ⟨d,hd,_⟩:=qZ hok
      obtain ⟨news,hn1,hn2,hn3,hn4⟩:=Rn hI hx (show iC K.H (.ro c (.pb l) tg) = some (.pb l,mO (.pb l) tg) by simp [iC,jW])
      simp only [aA,aH,aQ] at hs
      obtain ⟨h1,h2⟩:=bQ.1 hob
      obtain ⟨hpm,ad,cap,rfl,hcap,hpl,had,_,_⟩:=(hs.2.2 ob h1).2 h2
      obtain ⟨hsh,hcl⟩:=(hI.obj o ob h1).open hpm
      have afZ:ah ob.p = m.length:=by rw [hm];rfl
      have hpe:aO ob.p = 1:=by rw [hm];rfl
      have hs1:=hsh.1
      have hC:(K.μ o).cap ≠ 0:=by omega
      have had:=had (by omega)
      obtain ⟨cur,E,h3,h4,h5,h6⟩:=hcl hC
      have hnl:news.length = l.length:=by have:=hn1.2;simpa [ah,aO] using this
      have hle1:(m.take off).length = off:=by simp;omega
      have hp:GP (RV K.w (NT K T ob.tg)) (.pb (m.take off ++ l ++ m.drop (off + l.length))) (over (fun j=>cur[(K.μ o).base + j]?) off news):=by
       unfold fM at h6
       rw [if_neg (by rw [jH];decide),hm] at h6
       have hn:=hn1.1
       simp only [RP] at h6
       simp only [GP] at hn ⊢
       intro j b hb
       simp only [over]
       rw [auu] at hb
       by_cases hj:j < off
       ·rw [if_neg (by omega)]
        rw [atE (by omega),avH hj] at hb
        exact h6 j b hb
       ·rw [atJ (by omega),hle1] at hb
        by_cases hj2:j < off + l.length
        ·rw [if_pos (by omega)]
         rw [atE (by omega)] at hb
         exact hn _ b hb
        ·rw [if_neg (by omega)]
         rw [atJ (by omega),au2] at hb
         exact h6 j b (by rw [← hb];congr 1;omega)
      have hlen:ah (.pb (m.take off ++ l ++ m.drop (off + l.length))) = ah ob.p:=by
       rw [afZ];simp [ah];omega
      have hst:=Inv.store (T:=T) (p':=.pb (m.take off ++ l ++ m.drop (off + l.length))) (tg:=ob.tg) (k:=off) (vs:=news) hI hob hpm rfl hlen (by rw [hpe];rfl) (by rw [afZ,hpe];omega) hC h3 h4
       (by unfold fM;rw [if_neg (by simp only;rw [jH];decide)];simp only [GP] at hp;simp only [RP];exact hp)
      refine ⟨goInt l.length,_,?_,hst.1,hst.2,by simp [aA,aH,aQ,RV,goInt]⟩
      have hrun:=run_storeCells_at C.P (K.μ o).blk ((K.μ o).base + off) E news 0 cur K.w h3 (by rw [hpe] at h4;omega) hn2
      have hf:=hn4 1 (fun _=>rfl) C.P K.w (fun _ _=>rfl)
      have hlo:=hn3 C.P K.w
      have hmin:Nat.min l.length len = l.length:=auR hle
      simp only [ah] at hf hlo
      have hso:(sizeOf e).run C.P K.w = .ok 1 K.w:=by rw [run_sizeOf hd,hsz]
      rw [hpe,auX] at had
      subst had
      simp only [ave] at hrun
      simp only [Builtin.copy_,h0,ha0,ha1,Sem.run_bind,aY hu',Result.andThen_ok,hlo,hmin,hso,hf,Sem.run_pure]
      simp only [Sem.run_bind,hrun,Result.andThen_ok,Sem.run_pure,avy]
     ·cases h
    ·cases h
   ·cases h
  ·cases h
 ·cases h
theorem NG {C:Ctx} {K:Kx} {T:Nat→Nat→Prop} (hI:Inv C K T) {b:Builtin} {ts:Array TypeId} {args:List AV} {vs:Array Value} {r:AV} {H':Heap} (ha:eU K T args vs.toList)
  (h:kG C K.H b ts.toList args = some (r,H')) (ty:TypeId) (consts:Array Bool):Res C T K r H' ((builtin b ts ty consts vs).run C.P K.w):=by
 have hts:∀ {t:TypeId} {l:List TypeId},ts.toList = t :: l→ts[0]? = some t:=fun h=>by
  rw [← aun,h];rfl
 have aoV:∀ {t u:TypeId} {l:List TypeId},ts.toList = t :: u :: l→ts[1]? = some u:=fun h=>by
  rw [← aun,h];rfl
 have hvs:∀ {t:Value} {l:List Value},vs.toList = t :: l→vs[0]? = some t:=fun h=>by
  rw [← aun,h];rfl
 have af0:∀ {t u:Value} {l:List Value},vs.toList = t :: u :: l→vs[1]? = some u:=fun h=>by
  rw [← aun,h];rfl
 unfold kG at h
 split at h
 ·rename_i t _ x _ hte
  obtain ⟨v,s,hv,hx,_⟩:=ha.cons
  cases hl:lenV C K.H t x with
  | none=>rw [hl] at h;cases h
  | some n =>
   rw [hl] at h
   simp only [atF,atA,atC] at h
   obtain ⟨rfl,rfl⟩:=h
   have:=ZT (ty:=ty) hI hx hl (hts hte) (hvs hv)
   exact Res.same hI (v:=.int .i64 n) (by simp [builtin,this]) (by simp [aA,aH,aQ,RV])
 ·rename_i t _ x _ hte
  obtain ⟨v,s,hv,hx,_⟩:=ha.cons
  cases hl:LG C K.H t x with
  | none=>rw [hl] at h;cases h
  | some n =>
   rw [hl] at h
   simp only [atF,atA,atC] at h
   obtain ⟨rfl,rfl⟩:=h
   have:=ZU (ty:=ty) hI hx hl (hts hte) (hvs hv)
   exact Res.same hI (v:=.int .i64 n) (by simp [builtin,this]) (by simp [aA,aH,aQ,RV])
 ·rename_i t u _ s x hte
  obtain ⟨v,s1,hv,hx,h1⟩:=ha.cons
  obtain ⟨v',s2,rfl,hx',h2⟩:=h1.cons
  split at h
  ·rename_i hc
   obtain ⟨u,w',μ',h3,h4,h5,h6⟩:=PY (ty:=ty) hI hx hx' h (hts hte) (aoV hte) hc.1 hc.2 (hvs hv) (af0 hv)
   simp only [builtin,Sem.run_bind,h3,Result.andThen_ok,Sem.run_pure]
   exact ⟨μ',h4,h5,h6⟩
  ·cases h
 ·rename_i t _ s x hte
  obtain ⟨v,s1,hv,hx,h1⟩:=ha.cons
  obtain ⟨v',s2,rfl,hx',h2⟩:=h1.cons
  obtain ⟨u,w',h3,h4,h5,h6⟩:=X7 (ty:=ty) hI hx hx' h (hts hte) (hvs hv) (af0 hv)
  simp only [builtin,Sem.run_bind,h3,Result.andThen_ok,Sem.run_pure]
  exact ⟨K.μ,h4,h5,h6⟩
 ·rename_i x l
  obtain ⟨v,s,hv,hx,h1⟩:=ha.cons
  cases hm:kE true x l with
  | none=>rw [hm] at h;cases h
  | some z =>
   rw [hm] at h
   simp only [atF,atA,atC] at h
   obtain ⟨rfl,rfl⟩:=h
   obtain ⟨u,h2,h3⟩:=CV (P:=C.P) (w:=K.w) hx h1 true hm
   simp only [if_true] at h2
   exact Res.same hI (v:=u) (by simp only [builtin,Builtin.max_,hv,Sem.run_bind,h2,Result.andThen_ok,Sem.run_pure]) h3
 ·rename_i x l
  obtain ⟨v,s,hv,hx,h1⟩:=ha.cons
  cases hm:kE false x l with
  | none=>rw [hm] at h;cases h
  | some z =>
   rw [hm] at h
   simp only [atF,atA,atC] at h
   obtain ⟨rfl,rfl⟩:=h
   obtain ⟨u,h2,h3⟩:=CV (P:=C.P) (w:=K.w) hx h1 false hm
   simp only [atO,if_false] at h2
   exact Res.same hI (v:=u) (by simp only [builtin,Builtin.min_,hv,Sem.run_bind,h2,Result.andThen_ok,Sem.run_pure]) h3
 ·cases h
end Go.AM
namespace Go.AM
open Go.MapKept
theorem PZ (a b:List UInt8):((⟨⟨a⟩⟩:ByteArray) == ⟨⟨b⟩⟩) = (a == b):=by
 rw [Bool.eq_iff_iff,bytes_beq]
 simp
def vP (l:List UInt8):Array Value:=(l.map fun b=>Value.int .u8 b.toNat).toArray
theorem AY (l:List UInt8) (i:Nat):(vP l)[i]? = (l[i]?).map fun b=>Value.int .u8 b.toNat:=by simp [vP]
theorem acf (a b:UInt8):((a.toNat:Int) == (b.toNat:Int)) = (a == b):=by
 rw [Bool.eq_iff_iff]
 simp only [beq_iff_eq,Int.natCast_inj]
 exact UInt8.toNat_inj
theorem Gn {P:Program} {e:TypeId} (h:P.underlying e = some (.int .u8)):P.plainKey e = true:=by simp [Program.plainKey,h]
theorem I4 {P:Program} {w:World} {e:TypeId} (d:Nat) (he:P.underlying e = some (.int .u8)) {a b:List UInt8} (hab:a.length = b.length):∀ (m k:Nat),k + m = a.length →
  (Op.eqItems (d + 1) e 1 (vP a) (vP b) (List.range' k m)).run P w = .ok (a.drop k == b.drop k) w
 | 0,k,h=>by
  rw [List.drop_eq_nil_of_le (by omega),List.drop_eq_nil_of_le (by omega)]
  simp [Op.eqItems]
 | m + 1,k,h=>by
  have h1:k < a.length:=by omega
  have h2:k < b.length:=by omega
  have e1:(part e (vP a) (k * 1)).run P w = .ok (Value.int .u8 (a[k]).toNat) w:=run_part_plain w (Gn he) (by rw [auX,AY,atB h1];rfl)
  have e2:(part e (vP b) (k * 1)).run P w = .ok (Value.int .u8 (b[k]).toNat) w:=run_part_plain w (Gn he) (by rw [auX,AY,atB h2];rfl)
  rw [avZ]
  simp only [Op.eqItems,Sem.run_bind,e1,e2,Result.andThen_ok,run_equalIn_int w d e _ _ _ _ he]
  rw [acf]
  have hd:(a.drop k == b.drop k) = (a[k] == b[k] && a.drop (k + 1) == b.drop (k + 1)):=by
   rw [auw h1,auw h2]
   rfl
  rw [hd]
  cases hq:(a[k] == b[k]) with
  | false=>simp
  | true =>
   have:=I4 (w:=w) d he hab m (k + 1) (by omega)
   simp [this]
theorem D6 {P:Program} {w:World} {t e:TypeId} {n:Nat} (hu:P.underlying t = some (.array n e)) (he:P.underlying e = some (.int .u8)) (hs:P.cellsOf e = 1) {a b:List UInt8} (ha:a.length = n) (hb:b.length = n) :
  (Op.equal t (.agg (vP a)) (.agg (vP b))).run P w = .ok (a == b) w:=by
 obtain ⟨i,hi⟩:=wK he
 unfold Op.equal
 rw [show Op.maxDepth = 9999 + 1 from rfl,run_equalIn_array w 9999 _ _ hu hi,hs,List.range_eq_range']
 have:=I4 (w:=w) 9998 he (by omega:a.length = b.length) n 0 (by omega)
 simpa using this
theorem zy {P:Program} {w:World} {t e:TypeId} {n:Nat} (hu:P.underlying t = some (.array n e)) (he:P.underlying e = some (.int .u8)) (hs:P.cellsOf e = 1) {a:List UInt8} (ha:a.length = n) (em:Bool) (d:Nat) :
  (Instr.checkKey em (d + 1 + 1) t (.agg (vP a))).run P w = .ok () w:=by
 obtain ⟨i,hi⟩:=wK he
 have key:∀ (f:Nat→PUnit→Sem (ForInStep PUnit)),(∀ i,i < n→(f i PUnit.unit).run P w = .ok (ForInStep.yield PUnit.unit) w)→∀ (m k:Nat),k + m = n→(forIn (List.range' k m) PUnit.unit f).run P w = .ok PUnit.unit w:=by
  intro f hf m
  induction m with
  | zero=>intro k _;simp
  | succ m ih =>
   intro k hk
   rw [avZ]
   simp only [List.forIn_cons,Sem.run_bind,hf k (by omega),Result.andThen_ok]
   exact ih (k + 1) (by omega)
 rw [Instr.checkKey]
 simp only [Sem.run_bind,run_underlying hu,Result.andThen_ok]
 simp only [Std.Legacy.Range.forIn_eq_forIn_range',Std.Legacy.Range.size,avI,Nat.add_one_sub_one,Nat.div_one]
 refine (congrArg (fun r=>Result.andThen r fun _ w'=>Sem.run P (pure ()) w') (key _ (fun k hk=>?_) n 0 (by omega))).trans rfl
 have h1:k < a.length:=by omega
 have e1:(part e (vP a) (k * 1)).run P w = .ok (Value.int .u8 (a[k]).toNat) w:=run_part_plain w (Gn he) (by rw [auX,AY,atB h1];rfl)
 simp only [Sem.run_bind,Go.run_sizeOf w hi,hs,Result.andThen_ok,e1]
 rw [run_checkKey he (show IsKey (.int .u8) (.int .u8 _) from rfl)]
 simp only [Result.andThen_ok,Sem.run_pure]
theorem mF.agg {l:List UInt8} {v:Value} (h:mF (.agg (.pb l)) v):v = .agg (vP l):=by
 obtain ⟨cs,rfl,rfl⟩:=h
 rfl
theorem Uf {k k':AV} {v u:Value} (h:nT k k' = some true) (hk:mF k v) (hk':mF k' u):u = v:=by
 unfold nT at h
 split at h
 ·split at h
  ·rename_i e
   simp only [atA,beq_iff_eq] at h
   subst h;subst e
   simp only [mF] at hk hk'
   rw [hk,hk']
  ·cases h
 ·simp only [atA,beq_iff_eq] at h
  subst h
  simp only [mF] at hk hk'
  rw [hk,hk']
 ·simp only [atA,beq_iff_eq] at h
  subst h
  simp only [mF] at hk hk'
  rw [hk,hk']
 ·split at h
  ·simp only [atA,beq_iff_eq] at h
   subst h
   rw [hk.agg,hk'.agg]
  ·cases h
 ·cases h
def Entries (K:Kx) (T:Nat→Nat→Prop) (l:List AV) (es:List MapEntry):Prop :=
 es.length = l.length∧∀ (i:Nat) (a:AV),l[i]? = some a→∃ (k v:AV) (e:MapEntry),a = .pc [k,v]∧es[i]? = some e∧mF k e.key∧aH K T v e.val
theorem Entries.tail {K:Kx} {T:Nat→Nat→Prop} {a:AV} {l:List AV} {e:MapEntry} {es:List MapEntry} (h:Entries K T (a :: l) (e :: es)):Entries K T l es :=
 ⟨by simpa using h.1,fun i b hb=>by
  obtain ⟨k,v,e',h1,h2,h3⟩:=h.2 (i + 1) b (by simpa using hb)
  exact ⟨k,v,e',h1,by simpa using h2,h3⟩⟩
theorem Entries.head {K:Kx} {T:Nat→Nat→Prop} {a:AV} {l:List AV} {e:MapEntry} {es:List MapEntry} (h:Entries K T (a :: l) (e :: es)):∃ k v,a = .pc [k,v]∧mF k e.key∧aH K T v e.val:=by
 obtain ⟨k,v,e',h1,h2,h3⟩:=h.2 0 a rfl
 simp only [aud,atA] at h2
 subst h2
 exact ⟨k,v,h1,h3⟩
def vw (l:List AV) (es:List MapEntry) (vk:Value) (i:Nat):Option (Nat × AV)→Option (Nat × Value)→Prop
 | none,none=>True
 | some (j,v),some (j',u)=>j' = j∧i≤j∧∃ e k',es[j - i]? = some e∧e.val = u∧e.key = vk∧l[j - i]? = some (.pc [k',v])
 | _,_=>False
theorem vw.next {a:AV} {l:List AV} {e:MapEntry} {es:List MapEntry} {vk:Value} {i:Nat} {r:Option (Nat × AV)} {x:Option (Nat × Value)} (h:vw l es vk (i + 1) r x):vw (a :: l) (e :: es) vk i r x:=by
 cases r with
 | none=>cases x with
  | none=>trivial
  | some x=>exact h.elim
 | some r=>cases x with
  | none=>exact h.elim
  | some x =>
   obtain ⟨j,v⟩:=r
   obtain ⟨j',u⟩:=x
   obtain ⟨h1,h2,e',k',h3,h4,h5,h6⟩:=h
   have hj:j - i = (j - (i + 1)) + 1:=by omega
   exact ⟨h1,by omega,e',k',by rw [hj];simpa using h3,h4,h5,by rw [hj];simpa using h6⟩
theorem find_ok {K:Kx} {T:Nat→Nat→Prop} {k:AV} {vk:Value} {F:List MapEntry→Nat→Option (Nat × Value)→Prop} (hk:mF k vk)
  (hnil:∀ i,F [] i none) (aaL:∀ e es i k',mF k' e.key→nT k k' = some true→F (e :: es) i (some (i,e.val)))
  (hfalse:∀ e es i k' a,mF k' e.key→nT k k' = some false→F es (i + 1) a→F (e :: es) i a) :
  ∀ {l:List AV} {es:List MapEntry} {i:Nat} {r:Option (Nat × AV)},Entries K T l es→qg k l i = some r→∃ a,F es i a∧vw l es vk i r a
 | [],es,i,r,hE,h=>by
  have:es = []:=aup (by simpa using hE.1)
  subst this
  simp only [qg,atA] at h
  subst h
  exact ⟨none,hnil i,trivial⟩
 | a :: l,[],i,r,hE,h=>by
  have:=hE.1
  simp at this
 | a :: l,e :: es,i,r,hE,h=>by
  obtain ⟨k',v,rfl,h1,h2⟩:=hE.head
  simp only [qg] at h
  split at h
  ·rename_i hq
   simp only [atA] at h
   subst h
   exact ⟨some (i,e.val),aaL e es i k' h1 hq,rfl,atG _,e,k',by simp,rfl,Uf hq hk h1,by simp⟩
  ·rename_i hq
   obtain ⟨a,h3,h4⟩:=find_ok hk hnil aaL hfalse hE.tail h
   exact ⟨a,hfalse e es i k' a h1 hq h3,h4.next⟩
  ·cases h
structure ZX (C:Ctx) (t:TypeId) (k:AV) (vk:Value) (kt:TypeId):Prop where
 map:C.P.underlying t = some (.map kt (nX C t))
 rel:mF k vk
 check:∀ e w,(Instr.checkKey e 10000 kt vk).run C.P w = .ok () w
 stays:∀ w,(Instr.keyThatStays vk vk).run C.P w = .ok vk w
 find:∀ {K:Kx} {T:Nat→Nat→Prop} {l:List AV} {es:List MapEntry} {r:Option (Nat × AV)},Entries K T l es→qg k l 0 = some r→∃ a,(∀ w,(Instr.findKey kt vk es).run C.P w = .ok a w)∧vw l es vk 0 r a
theorem G5 (b:UInt8) (n:Nat):Instr.sameBits n (.int .u8 b.toNat) (.int .u8 b.toNat) = true:=by
 cases n <;> simp [Instr.sameBits]
theorem Gp (l:List UInt8) (n:Nat):Instr.sameBits (n + 1) (.agg (vP l)) (.agg (vP l)) = true:=by
 simp only [Instr.sameBits,beq_self_eq_true,avf,atT]
 intro x hx
 obtain ⟨a,b⟩:=x
 have:∀ (m:List UInt8),(a,b) ∈ (m.map fun b=>Value.int .u8 b.toNat).zip (m.map fun b=>Value.int .u8 b.toNat)→Instr.sameBits n a b = true:=by
  intro m
  induction m with
  | nil=>intro h;simp at h
  | cons y m ih =>
   intro h
   simp only [aua,List.zip_cons_cons,atX,atC] at h
   rcases h with ⟨rfl,rfl⟩ | h
   ·exact G5 y n
   ·exact ih h
 exact this l (by simpa [vP] using hx)
theorem CW {C:Ctx} {t kt:TypeId} {d:TypeDesc} {k:AV} {vk:Value} (hm:C.P.underlying t = some (.map kt (nX C t))) (hd:C.P.underlying kt = some d) (hr:mF k vk) (hi:IsKey d vk)
  (hs:∀ k' u b,mF k' u→nT k k' = some b→Instr.sameNow d vk u = some b):ZX C t k vk kt where
 map:=hm
 rel:=hr
 check:=fun e w=>run_checkKey hd hi e 9999
 stays:=fun w=>run_keyThatStays hi
 find:=by
  intro K T l es r hE h
  obtain ⟨a,h1,h2⟩:=find_ok (F:=fun es i a=>Instr.findNow d vk es i = some a) hr (fun i=>rfl)
   (fun e es i k' h1 h2=>by simp only [Instr.findNow,hs k' _ _ h1 h2])
   (fun e es i k' a h1 h2 h3=>by simp only [Instr.findNow,hs k' _ _ h1 h2];exact h3) hE h
  exact ⟨a,fun w=>run_findKey hd h1,h2⟩
theorem Ug {C:Ctx} {t kt e:TypeId} {n:Nat} {l:List UInt8} (hm:C.P.underlying t = some (.map kt (nX C t))) (hd:C.P.underlying kt = some (.array n e)) (he:C.P.underlying e = some (.int .u8)) (hs:C.P.cellsOf e = 1)
  (hl:l.length = n):ZX C t (.agg (.pb l)) (.agg (vP l)) kt where
 map:=hm
 rel:=⟨_,rfl,rfl⟩
 check:=fun em w=>zy hd he hs hl em 9998
 stays:=fun w=>by
  simp [Instr.keyThatStays,Gp l 9999]
 find:=by
  intro K T m es r hE h
  have heq:∀ k' u b,mF k' u→nT (.agg (.pb l)) k' = some b→∀ w,(Op.equal kt (.agg (vP l)) u).run C.P w = .ok b w:=by
   intro k' u b hk hq w
   cases k' <;> try (simp [nT] at hq;done)
   case agg p =>
    cases p <;> try (simp [nT] at hq;done)
    case pb a2 =>
     simp only [nT] at hq
     split at hq
     ·rename_i hlen
      simp only [atA] at hq
      subst hq
      rw [hk.agg]
      exact D6 hd he hs hl (by omega)
     ·cases hq
  obtain ⟨a,h1,h2⟩:=find_ok (F:=fun es i a=>∀ w,(Instr.findAsking kt (.agg (vP l)) es i).run C.P w = .ok a w) (show mF (.agg (.pb l)) _ from ⟨_,rfl,rfl⟩) (fun i w=>by simp [Instr.findAsking])
   (fun e es i k' h1 h2 w=>by simp [Instr.findAsking,heq k' _ _ h1 h2 w,Result.andThen])
   (fun e es i k' a h1 h2 h3 w=>by simp [Instr.findAsking,heq k' _ _ h1 h2 w,Result.andThen,h3 w]) hE h
  exact ⟨a,fun w=>by rw [run_findKey_eq w (by rw [hd])];exact h1 w,h2⟩
theorem Ky {K:Kx} {T:Nat→Nat→Prop} {k:IntKind} {n:Int} {v:Value} (h:aA K T (.int k n) v):v = .int k n:=by simpa [aA,aH,aQ,RV] using h
theorem ZY {K:Kx} {T:Nat→Nat→Prop} {s:List UInt8} {v:Value} (h:aA K T (.str s) v):v = .string ⟨⟨s⟩⟩:=by simpa [aA,aH,aQ,RV] using h
theorem X8 {K:Kx} {T:Nat→Nat→Prop} {b:Bool} {v:Value} (h:aA K T (.bool b) v):v = .bool b:=by simpa [aA,aH,aQ,RV] using h
theorem acg {K:Kx} {T:Nat→Nat→Prop} {l:List UInt8} {v:Value} (h:aA K T (.agg (.pb l)) v):v = .agg (vP l):=by
 simp only [aA,aH] at h
 obtain ⟨cs,rfl,h1,h2⟩:=h
 simp only [iM,GP] at h2
 congr 1
 apply Array.ext_getElem?
 intro i
 rw [AY]
 cases hi:l[i]? with
 | none =>
  have hlen:l.length≤i:=by simpa using hi
  rw [Array.getElem?_eq_none (by rw [h1];simpa [aS,ah,aO] using hlen)]
  rfl
 | some b=>rw [h2 i b hi];rfl
theorem key_ok {C:Ctx} {K:Kx} {T:Nat→Nat→Prop} {t:TypeId} {k:AV} {vk:Value} (hk:aA K T k vk) (h:Ej C t k = true):∃ kt,ZX C t k vk kt:=by
 unfold Ej at h
 split at h
 ·rename_i kt et hu
  have hm:C.P.underlying t = some (.map kt (nX C t)):=by
   have:=aW hu (by simp)
   rw [this]
   simp [nX,hu]
  refine ⟨kt,?_⟩
  split at h
  ·rename_i k1 k2 n hu2
   simp only [decide_eq_true_eq] at h
   subst h
   rw [Ky hk]
   refine CW hm (aW hu2 (by simp)) rfl rfl fun k' u b h1 h2=>?_
   cases k' <;> try (simp [nT] at h2;done)
   case int k3 m =>
    simp only [nT] at h2
    split at h2
    ·rename_i e2
     subst e2
     simp only [mF] at h1
     subst h1
     simpa [Instr.sameNow] using h2
    ·cases h2
  ·rename_i s hu2
   rw [ZY hk]
   refine CW hm (aW hu2 (by simp)) rfl trivial fun k' u b h1 h2=>?_
   cases k' <;> try (simp [nT] at h2;done)
   case str s2 =>
    simp only [mF] at h1
    subst h1
    simpa [Instr.sameNow,nT,PZ] using h2
  ·rename_i b0 hu2
   rw [X8 hk]
   refine CW hm (aW hu2 (by simp)) rfl trivial fun k' u b h1 h2=>?_
   cases k' <;> try (simp [nT] at h2;done)
   case bool b2 =>
    simp only [mF] at h1
    subst h1
    simpa [Instr.sameNow,nT] using h2
  ·rename_i n e l hu2
   simp only [atS,decide_eq_true_eq] at h
   obtain ⟨⟨h1,h2⟩,h3⟩:=h
   rw [acg hk]
   exact Ug hm (aW hu2 (by simp)) (xW h1) h3 h2
  ·cases h
 ·cases h
theorem Rq {K:Kx} {T:Nat→Nat→Prop} {a:AV} {v:Value} (h:aA K T a v) (hn:nY a = true):aH K T a v:=by
 cases a <;> first | exact h | cases hn
theorem En {C:Ctx} {K:Kx} {T:Nat→Nat→Prop} (hI:Inv C K T) {o g:Nat} {ob:Obj} {l:List AV} {v:Value} (hv:aA K T (.map o g) v) (hl:live K.H o g = some ob) (hp:ob.p = .pm l) :
  ∃ es clock,v = .map (some (K.μ o).blk)∧K.w.heap[(K.μ o).blk]? = some (.map es clock)∧es.size = l.length∧clock = l.length ∧
   ∀ (i:Nat) (a:AV),l[i]? = some a→∃ (k v:AV) (e:MapEntry),a = .pc [k,v]∧es[i]? = some e∧e.born = i∧mF k e.key∧aH K T v e.val:=by
 obtain ⟨h1,h2⟩:=bQ.1 hl
 simp only [aA,aH,aQ] at hv
 have h3:=(hv.2.2 ob h1).2 h2
 have h4:=hI.obj o ob h1
 unfold fQ at h4
 rw [hp] at h4
 obtain ⟨es,clock,h5,h6,h7,h8⟩:=h4
 exact ⟨es,clock,h3.2,h5,h6,h7,h8⟩
theorem zA {K:Kx} {T:Nat→Nat→Prop} {l:List AV} {es:Array MapEntry} (h1:es.size = l.length)
  (h2:∀ (i:Nat) (a:AV),l[i]? = some a→∃ (k v:AV) (e:MapEntry),a = .pc [k,v]∧es[i]? = some e∧e.born = i∧mF k e.key∧aH K T v e.val):Entries K T l es.toList :=
 ⟨by simpa using h1,fun i a ha=>by
  obtain ⟨k,v,e,e1,e2,_,e4,e5⟩:=h2 i a ha
  exact ⟨k,v,e,e1,by rw [aun];exact e2,e4,e5⟩⟩
theorem AZ {C:Ctx} {K:Kx} {T:Nat→Nat→Prop} (hI:Inv C K T) {o g:Nat} {ob:Obj} {l l':List AV} {es es':Array MapEntry} {clock clock':Nat} (hl:live K.H o g = some ob) (hp:ob.p = .pm l)
  (hb:K.w.heap[(K.μ o).blk]? = some (.map es clock)) (h1:es'.size = l'.length) (h2:clock' = l'.length)
  (h3:∀ (i:Nat) (a:AV),l'[i]? = some a→∃ (k v:AV) (e:MapEntry),a = .pc [k,v]∧es'[i]? = some e∧e.born = i∧mF k e.key∧aH K T v e.val) :
  Inv C ⟨K.μ,upd K.H o (some { ob with p:=.pm l' }),{ K.w with heap:=K.w.heap.setIfInBounds (K.μ o).blk (.map es' clock') }⟩ T ∧
   Evo T K.H.length K ⟨K.μ,upd K.H o (some { ob with p:=.pm l' }),{ K.w with heap:=K.w.heap.setIfInBounds (K.μ o).blk (.map es' clock') }⟩:=by
 obtain ⟨hlv,hg⟩:=bQ.1 hl
 have hlt:o < K.H.length:=ZV hl
 have hpm:gJ ob.p = true:=by rw [hp];rfl
 obtain ⟨hs1,hs2⟩:=heap_set (o':=.map es' clock') hb
 have hself:∀ ob',(upd K.H o (some { ob with p:=.pm l' }))[o]? = some (some ob')→ob' = { ob with p:=.pm l' }:=by
  intro ob' h
  rcases pG h with ⟨_,h⟩ | ⟨h,_⟩
  ·simpa using h.symm
  ·exact absurd rfl h
 refine Inv.turn hI o (by simp [yc]) ?_ (by simp) rfl rfl rfl ?_ ?_ ?_ ?_
 ·intro j hj ob' h
  rcases pG h with ⟨h,_⟩ | ⟨_,h⟩
  ·exact absurd h hj
  ·exact ⟨h,rfl⟩
 ·intro b _ hne
  exact .inl (hs2 b (auf (hne ob hlv (.inl hpm))))
 ·intro ob' h hr
  refine ⟨.inl ⟨ob,hlv,.inl hpm,rfl⟩,?_⟩
  have:=(au6.1 hb).1
  simpa using this
 ·intro _ ob' h
  have:=hself ob' h
  subst this
  refine ⟨ob,hlv,atG _,fun _=>⟨rfl,?_⟩⟩
  simp [Same,hp,aO,ah,gJ]
 ·intro hE ob' h
  have:=hself ob' h
  subst this
  unfold fQ
  simp only
  refine ⟨es',clock',hs1,h1,h2,fun i a ha=>?_⟩
  obtain ⟨k,v,e,e1,e2,e3,e4,e5⟩:=h3 i a ha
  exact ⟨k,v,e,e1,e2,e3,e4,aH.evo hE (atG _) e5⟩
theorem oq {l:List AV} {es:Array MapEntry} {vk:Value} {i:Nat} {v:AV} {a:Option (Nat × Value)} (h:vw l es.toList vk 0 (some (i,v)) a) :
  ∃ e k',a = some (i,e.val)∧es[i]? = some e∧e.key = vk∧l[i]? = some (.pc [k',v]):=by
 cases a with
 | none=>exact h.elim
 | some x =>
  obtain ⟨j,u⟩:=x
  obtain ⟨rfl,_,e,k',h1,rfl,h3,h4⟩:=h
  exact ⟨e,k',rfl,by simpa using h1,h3,by simpa using h4⟩
theorem lT {l:List AV} {es:List MapEntry} {vk:Value} {a:Option (Nat × Value)} (h:vw l es vk 0 none a):a = none:=by
 cases a with
 | none=>rfl
 | some x=>exact h.elim
theorem Kz {K:Kx} {T:Nat→Nat→Prop} {a:AV} {v:Value} {ok b:Bool} (h:aH K T a v):aA K T (if ok then .tup [a,.bool b] else a) (if ok then .tuple #[v,.bool b] else v):=by
 cases ok with
 | false=>exact aH.v h
 | true =>
  refine ⟨#[v,.bool b],rfl,rfl,fun j c hc=>?_⟩
  match j,hc with
  | 0,hc =>
   simp only [aud,atA] at hc
   subst hc
   exact ⟨v,rfl,h⟩
  | 1,hc =>
   simp only [atN,aud,atA] at hc
   subst hc
   exact ⟨.bool b,rfl,by simp [aH,aQ,RV]⟩
  | j + 2,hc=>simp at hc
theorem P5 {C:Ctx} {K:Kx} {T:Nat→Nat→Prop} (hI:Inv C K T) {t:TypeId} {x k r:AV} {ok:Bool} {v vk:Value} (hv:aA K T x v) (hk:aA K T k vk) (h:lC C K.H t x k ok = some r) :
  ∃ u,(Instr.lookup t v vk ok).run C.P K.w = .ok u K.w∧aA K T r u:=by
 unfold lC at h
 split at h
 ·cases h
 ·rename_i hc
  simp only [uO,Bool.not_eq_false,atS] at hc
  obtain ⟨c1,c2,c3⟩:=hc
  obtain ⟨kt,hkr⟩:=key_ok hk c1
  obtain ⟨z,hz,hzr,_⟩:=x9 (K:=K) (T:=T) (t:=nX C t) (C:=C) rfl (fun e=>by rw [e] at c2;cases c2)
  have hz1:=Rq hzr c3
  simp only at h
  split at h
  ·have:v = .map none:=by simpa [aA,aH,aQ,RV] using hv
   subst this
   simp only [atA] at h
   subst h
   obtain ⟨a,h1,h2⟩:=hkr.find (K:=K) (T:=T) (l:=[]) (es:=[]) (r:=none) ⟨rfl,fun i a h=>by simp at h⟩ rfl
   have:=lT h2
   subst this
   refine ⟨_,?_,Kz hz1⟩
   simp [Instr.lookup,run_underlying hkr.map,Result.andThen,hkr.check,h1,hz]
  ·rename_i o g
   split at h
   ·rename_i ob hl
    split at h
    ·rename_i l hp
     obtain ⟨es,clock,rfl,hb,h6,h7,h8⟩:=En hI hv hl hp
     have hE:=zA h6 h8
     split at h
     ·rename_i i y hf
      simp only [atA] at h
      subst h
      obtain ⟨a,h1,h2⟩:=hkr.find hE hf
      obtain ⟨e,k',rfl,h3,h4,h5⟩:=oq h2
      obtain ⟨k2,v2,e2,e3,e4,e5,e6,e7⟩:=h8 _ _ h5
      rw [h3] at e4
      cases e4
      cases e3
      refine ⟨_,?_,Kz e7⟩
      simp [Instr.lookup,run_underlying hkr.map,Result.andThen,Go.MapKept.run_getObj_map hb,hkr.check,h1]
     ·rename_i hf
      simp only [atA] at h
      subst h
      obtain ⟨a,h1,h2⟩:=hkr.find hE hf
      have:=lT h2
      subst this
      refine ⟨_,?_,Kz hz1⟩
      simp [Instr.lookup,run_underlying hkr.map,Result.andThen,Go.MapKept.run_getObj_map hb,hkr.check,h1,hz]
     ·cases h
    ·cases h
   ·cases h
  ·cases h
theorem X9 {C:Ctx} {t:TypeId} {k:AV} {vk:Value} {kt:TypeId} (hkr:ZX C t k vk kt) {es:Array MapEntry} {i:Nat} {e:MapEntry} (h:es[i]? = some e) (he:e.key = vk) (w:World) :
  (Instr.keyThatStays (((es[i]?).map (·.key)).getD vk) vk).run C.P w = .ok vk w:=by
 rw [h]
 simp only [atF,aus,he]
 exact hkr.stays w
theorem Gq {C:Ctx} {K:Kx} {T:Nat→Nat→Prop} (hI:Inv C K T) {t:TypeId} {x k y:AV} {v vk vy:Value} {H':Heap} (hv:aA K T x v) (hk:aA K T k vk) (hy:aA K T y vy) (h:uP C K.H t x k y = some H') :
  ∃ w' μ',(Instr.mapUpdate t v vk vy).run C.P K.w = .ok () w'∧Inv C ⟨μ',H',w'⟩ T∧Evo T K.H.length K ⟨μ',H',w'⟩:=by
 unfold uP at h
 split at h
 ·cases h
 ·rename_i hc
  simp only [Bool.not_eq_false,atS] at hc
  obtain ⟨c1,c3⟩:=hc
  obtain ⟨kt,hkr⟩:=key_ok hk c1
  have hy1:=Rq hy c3
  split at h
  ·rename_i o g
   split at h
   ·rename_i ob hl
    split at h
    ·rename_i l hp
     obtain ⟨es,clock,rfl,hb,h6,h7,h8⟩:=En hI hv hl hp
     have hE:=zA h6 h8
     split at h
     ·rename_i i y0 hf
      simp only [atA] at h
      subst h
      obtain ⟨a,h1,h2⟩:=hkr.find hE hf
      obtain ⟨e,k',rfl,h3,h4,h5⟩:=oq h2
      obtain ⟨g1,g2⟩:=AZ (es':=es.modify i fun e=>{ e with key:=vk,val:=vy }) (l':=l.set i (.pc [k,y])) (clock':=clock) hI hl hp hb (by simp [h6]) (by simp [h7]) (by
       intro j a ha
       rcases o9 ha with ⟨rfl,rfl,hjl⟩ | ⟨hne,ha⟩
       ·obtain ⟨k2,v2,e2,e3,e4,e5,e6,e7⟩:=h8 _ _ h5
        rw [h3] at e4
        cases e4
        exact ⟨k,y,⟨vk,vy,e.born⟩,rfl,by rw [auO,if_pos rfl,h3];rfl,e5,hkr.rel,hy1⟩
       ·obtain ⟨k2,v2,e2,e3,e4,e5,e6,e7⟩:=h8 _ _ ha
        exact ⟨k2,v2,e2,e3,by rw [auO,if_neg hne];exact e4,e5,e6,e7⟩)
      refine ⟨_,_,?_,g1,g2⟩
      simp [Instr.mapUpdate,run_underlying hkr.map,Result.andThen,Go.MapKept.run_getObj_map hb,hkr.check,h1,X9 hkr h3 h4,Go.MapKept.run_setObj_map _ hb]
     ·rename_i hf
      simp only [atA] at h
      subst h
      obtain ⟨a,h1,h2⟩:=hkr.find hE hf
      have:=lT h2
      subst this
      obtain ⟨g1,g2⟩:=AZ (es':=es.push { key:=vk,val:=vy,born:=clock }) (l':=l ++ [.pc [k,y]]) (clock':=clock + 1) hI hl hp hb (by simp [h6]) (by simp [h7]) (by
       intro j a ha
       rcases sJ ha with ⟨hj,ha⟩ | ⟨hj,ha⟩
       ·obtain ⟨k2,v2,e2,e3,e4,e5,e6,e7⟩:=h8 _ _ ha
        exact ⟨k2,v2,e2,e3,by rw [avR (by omega),← avc];exact e4,e5,e6,e7⟩
       ·have hj0:j = l.length:=by
         have:=(atD.1 ha).1
         simp at this
         omega
        subst hj0
        simp only [avK,aud,atA] at ha
        subst ha
        exact ⟨k,y,⟨vk,vy,clock⟩,rfl,by rw [← h6];simp,h7,hkr.rel,hy1⟩)
      refine ⟨_,_,?_,g1,g2⟩
      simp [Instr.mapUpdate,run_underlying hkr.map,Result.andThen,Go.MapKept.run_getObj_map hb,hkr.check,h1,Go.MapKept.run_setObj_map _ hb]
     ·cases h
    ·cases h
   ·cases h
  ·cases h
theorem Rt {K:Kx} {T:Nat→Nat→Prop} {a:AV} {v:Value} {n:Int} (h:aH K T a v):aA K T (.tup [a,.int .i64 n]) (.tuple #[v,.int .i64 n]):=by
 refine ⟨#[v,.int .i64 n],rfl,rfl,fun j c hc=>?_⟩
 match j,hc with
 | 0,hc =>
  simp only [aud,atA] at hc
  subst hc
  exact ⟨v,rfl,h⟩
 | 1,hc =>
  simp only [atN,aud,atA] at hc
  subst hc
  exact ⟨_,rfl,by simp [aH,aQ,RV]⟩
 | j + 2,hc=>simp at hc
theorem Uh {C:Ctx} {K:Kx} {T:Nat→Nat→Prop} (hI:Inv C K T) {t:TypeId} {x k r:AV} {v vk:Value} {H':Heap} (hv:aA K T x v) (hk:aA K T k vk) (h:tH C K.H t x k = some (r,H')) :
  ∃ u w' μ',(Instr.mapEntry t v vk).run C.P K.w = .ok u w'∧Inv C ⟨μ',H',w'⟩ T∧Evo T K.H.length K ⟨μ',H',w'⟩∧aA ⟨μ',H',w'⟩ T r u:=by
 unfold tH at h
 split at h
 ·cases h
 ·rename_i hc
  simp only [uO,Bool.not_eq_false,atS] at hc
  obtain ⟨c1,c2,c3⟩:=hc
  obtain ⟨kt,hkr⟩:=key_ok hk c1
  obtain ⟨z,hz,hzr,_⟩:=x9 (K:=K) (T:=T) (t:=nX C t) (C:=C) rfl (fun e=>by rw [e] at c2;cases c2)
  have hz1:=Rq hzr c3
  split at h
  ·rename_i o g
   split at h
   ·rename_i ob hl
    split at h
    ·rename_i l hp
     obtain ⟨es,clock,rfl,hb,h6,h7,h8⟩:=En hI hv hl hp
     have hE:=zA h6 h8
     split at h
     ·rename_i i y0 hf
      simp only [atA,atC] at h
      obtain ⟨rfl,rfl⟩:=h
      obtain ⟨a,h1,h2⟩:=hkr.find hE hf
      obtain ⟨e,k',rfl,h3,h4,h5⟩:=oq h2
      obtain ⟨k2,v2,e2,e3,e4,e5,e6,e7⟩:=h8 _ _ h5
      rw [h3] at e4
      cases e4
      cases e3
      have hsame:es.modify i (fun e=>{ e with key:=vk }) = es:=by
       apply Array.ext_getElem?
       intro j
       rw [auO]
       split
       ·rename_i hj
        subst hj
        rw [h3]
        simp only [atF]
        rw [← h4]
       ·rfl
      have hset:K.w.heap.setIfInBounds (K.μ o).blk (.map es clock) = K.w.heap:=by
       apply Array.ext_getElem?
       intro j
       by_cases hj:j = (K.μ o).blk
       ·subst hj
        rw [(heap_set hb).1,hb]
       ·exact (heap_set hb).2 j hj
      have hst:∀ w,(Instr.keyThatStays e.key vk).run C.P w = .ok vk w:=fun w=>by rw [h4];exact hkr.stays w
      refine ⟨_,K.w,K.μ,?_,hI,Evo.refl T K (atG _),Rt (n:=i) e7⟩
      simp [Instr.mapEntry,run_underlying hkr.map,Result.andThen,Go.MapKept.run_getObj_map hb,hkr.check,h1,hst,Go.MapKept.run_setObj_map _ hb,hsame,hset,h3,e5,goInt]
     ·rename_i hf
      simp only [atA,atC] at h
      obtain ⟨rfl,rfl⟩:=h
      obtain ⟨a,h1,h2⟩:=hkr.find hE hf
      have:=lT h2
      subst this
      subst h7
      obtain ⟨g1,g2⟩:=AZ (es':=es.push { key:=vk,val:=z,born:=l.length }) (l':=l ++ [.pc [k,bg C (nX C t)]]) (clock':=l.length + 1) hI hl hp hb (by simp [h6]) (by simp) (by
       intro j a ha
       rcases sJ ha with ⟨hj,ha⟩ | ⟨hj,ha⟩
       ·obtain ⟨k2,v2,e2,e3,e4,e5,e6,e7⟩:=h8 _ _ ha
        exact ⟨k2,v2,e2,e3,by rw [avR (by omega),← avc];exact e4,e5,e6,e7⟩
       ·have hj0:j = l.length:=by
         have:=(atD.1 ha).1
         simp at this
         omega
        subst hj0
        simp only [avK,aud,atA] at ha
        subst ha
        exact ⟨k,bg C (nX C t),⟨vk,z,l.length⟩,rfl,by rw [← h6];simp,rfl,hkr.rel,hz1⟩)
      refine ⟨_,_,_,?_,g1,g2,Rt (n:=l.length) (aH.evo g2 (atG _) hz1)⟩
      simp [Instr.mapEntry,run_underlying hkr.map,Result.andThen,Go.MapKept.run_getObj_map hb,hkr.check,h1,hz,Go.MapKept.run_setObj_map _ hb,goInt]
     ·cases h
    ·cases h
   ·cases h
  ·cases h
theorem Gs {C:Ctx} {K:Kx} {T:Nat→Nat→Prop} (hI:Inv C K T) {t:TypeId} {x s y:AV} {v vs vy:Value} {H':Heap} (hv:aA K T x v) (hk:aA K T s vs) (hy:aA K T y vy) (h:gW K.H x s y = some H') :
  ∃ w' μ',(Instr.entryStore t v vs vy).run C.P K.w = .ok () w'∧Inv C ⟨μ',H',w'⟩ T∧Evo T K.H.length K ⟨μ',H',w'⟩:=by
 unfold gW at h
 split at h
 ·cases h
 ·rename_i hc
  have hy1:=Rq hy (by simpa using hc)
  split at h
  ·rename_i o g n
   have hvs:=Ky hk
   subst hvs
   split at h
   ·rename_i ob hl
    split at h
    ·rename_i l hp
     obtain ⟨es,clock,rfl,hb,h6,h7,h8⟩:=En hI hv hl hp
     split at h
     ·rename_i hn
      split at h
      ·rename_i k _ hli
       simp only [atA] at h
       subst h
       obtain ⟨k2,v2,e,e3,e4,e5,e6,e7⟩:=h8 _ _ hli
       cases e3
       have hlt:n.toNat < es.size:=(au6.1 e4).1
       have hfind:es.findIdx? (fun e=>(e.born:Int) == n) = some n.toNat:=by
        rw [Array.findIdx?_eq_some_iff_getElem]
        refine ⟨hlt,?_,fun j hj=>?_⟩
        ·have:=(au6.1 e4).2
         rw [this,e5]
         simp
         omega
        ·have hjl:j < l.length:=by omega
         obtain ⟨k3,v3,e',f3,f4,f5,_⟩:=h8 j _ (atB hjl)
         have:=(au6.1 f4).2
         rw [this,f5]
         simp
         omega
       obtain ⟨g1,g2⟩:=AZ (es':=es.modify n.toNat fun e=>{ e with val:=vy }) (l':=l.set n.toNat (.pc [k,y])) (clock':=clock) hI hl hp hb (by simp [h6]) (by simp [h7]) (by
        intro j a ha
        rcases o9 ha with ⟨rfl,rfl,hjl⟩ | ⟨hne,ha⟩
        ·exact ⟨k,y,⟨e.key,vy,e.born⟩,rfl,by rw [auO,if_pos rfl,e4];rfl,e5,e6,hy1⟩
        ·obtain ⟨k2,v2,e2,f3,f4,f5,f6,f7⟩:=h8 _ _ ha
         exact ⟨k2,v2,e2,f3,by rw [auO,if_neg hne];exact f4,f5,f6,f7⟩)
       refine ⟨_,_,?_,g1,g2⟩
       simp [Instr.entryStore,asInt,asIntOf,Result.andThen,Go.MapKept.run_getObj_map hb,hfind,Go.MapKept.run_setObj_map _ hb]
      ·cases h
     ·cases h
    ·cases h
   ·cases h
  ·cases h
theorem P6 {C:Ctx} {K:Kx} {T:Nat→Nat→Prop} (hI:Inv C K T) {t:TypeId} {r:Option AV} {v:Option Value} (hr:tK K T r v) (ht:JJ C t = true) (hn:BQ r = true) :
  ∃ u w' μ',(Instr.makeMap t v).run C.P K.w = .ok u w'∧Inv C ⟨μ',(tJ K.H).2,w'⟩ T∧Evo T K.H.length K ⟨μ',(tJ K.H).2,w'⟩∧aA ⟨μ',(tJ K.H).2,w'⟩ T (tJ K.H).1 u:=by
 have hrun:(Instr.makeMap t v).run C.P K.w = .ok (.map (some K.w.heap.size)) (K.w.alloc (.map #[] 0)):=by
  cases v with
  | none=>rfl
  | some v =>
   cases r with
   | none=>exact hr.elim
   | some r =>
    have hr':aA K T r v:=hr
    cases r <;> first | cases hn | skip
    have:=Ky hr'
    subst this
    unfold JJ at ht
    split at ht
    ·rename_i kt et hu
     simp [Instr.makeMap,run_underlying (aW hu (by simp)),asInt,asIntOf,Result.andThen]
    ·cases ht
 obtain ⟨μ',h1,h2,h3⟩:=Inv.push (w':=K.w.alloc (.map #[] 0)) hI ⟨.pm [],0,none,1,false,true,0⟩ ⟨K.w.heap.size,0,0⟩ (by simp) rfl rfl rfl (fun b hb=>alloc_old _ _ hb)
  (fun _=>⟨atG _,by simp⟩) (by
   intro μ' hold hm hE
   unfold fQ
   simp only [hm]
   exact ⟨#[],0,kP _ _,rfl,rfl,fun i a h=>by simp at h⟩)
 refine ⟨_,_,μ',hrun,h2,h3,?_⟩
 simp only [tJ,aA,aH,aQ]
 refine ⟨by simp,rfl,fun ob hob=>?_⟩
 have:ob = ⟨.pm [],0,none,1,false,true,0⟩:=by simpa using hob.symm
 subst this
 refine ⟨atG _,fun _=>⟨rfl,?_⟩⟩
 rw [h1]
def isFn:Op→Bool
 | .call c=>match c.callee with
  | .value _=>true
  | _=>false
 | _=>false
theorem uY {C:Ctx} {K:Kx} {T:Nat→Nat→Prop} (hI:Inv C K T) {fr:Frame} {a:Act} (hf:qF K T fr a.tmps):∀ (l:List Operand) (ts:List TypeId),eU K T (eG C fr l ts) (l.map a.eval)
 | [],_=>trivial
 | x :: r,ts=>by
  simp only [eG,aua,eU]
  refine ⟨?_,uY hI hf r _⟩
  split
  ·exact JO hI hf _ x
  ·exact xG hI hf x
theorem tX {C:Ctx} {K:Kx} {T:Nat→Nat→Prop} (hI:Inv C K T) {fr:Frame} {a:Act} (hf:qF K T fr a.tmps) (t:TypeId):∀ (l:List (Nat × Operand)),jv K T (iy C fr t l) (l.map fun x=>(x.1,a.eval x.2))
 | []=>trivial
 | (_,x) :: r=>⟨rfl,JO hI hf t x,tX hI hf t r⟩
theorem step_ok {C:Ctx} {K:Kx} {T:Nat→Nat→Prop} (hI:Inv C K T) {fr:Frame} {a:Act} (hf:qF K T fr a.tmps) {o:Oper} {cf:Cf} {x:AV} {H':Heap} (hno:isFn o.op = false) (h:step C cf fr K.H o = some (x,H')) :
  Res C T K x H' ((execOp a.eval o).run C.P K.w):=by
 have eO:∀ y,aA K T (aJ C fr y) (a.eval y):=xG hI hf
 have eT:∀ t y,aA K T (fP C fr t y) (a.eval y):=JO hI hf
 -- a value,the heap and the world as they were
 have same:∀ {m:Option AV} {s:Sem Value},(∀ y,m = some y→∃ u,s.run C.P K.w = .ok u K.w∧aA K T y u)→(m.map fun v=>(v,K.H)) = some (x,H') →
   Res C T K x H' ((do pure (.value (← s)):Sem Next).run C.P K.w):=by
  intro m s h1 h2
  cases m with
  | none=>cases h2
  | some y =>
   simp only [atF,atA,atC] at h2
   obtain ⟨rfl,rfl⟩:=h2
   obtain ⟨u,h3,h4⟩:=h1 _ rfl
   exact Res.same hI (v:=u) (by simp only [Sem.run_bind,h3,Result.andThen_ok,Sem.run_pure]) h4
 -- a value,the heap turned
 have turn:∀ {s:Sem Value},(∃ u w' μ',s.run C.P K.w = .ok u w'∧Inv C ⟨μ',H',w'⟩ T∧Evo T K.H.length K ⟨μ',H',w'⟩∧aA ⟨μ',H',w'⟩ T x u) →
   Res C T K x H' ((do pure (.value (← s)):Sem Next).run C.P K.w):=by
  rintro s ⟨u,w',μ',h1,h2,h3,h4⟩
  simp only [Sem.run_bind,h1,Result.andThen_ok,Sem.run_pure]
  exact ⟨μ',h2,h3,h4⟩
 -- no value
 have skip:∀ {s:Sem Unit} {m:Option Heap},(∀ H1,m = some H1→∃ w' μ',s.run C.P K.w = .ok () w'∧Inv C ⟨μ',H1,w'⟩ T∧Evo T K.H.length K ⟨μ',H1,w'⟩)→(m.map fun H=>(AV.top,H)) = some (x,H') →
   Res C T K x H' ((do s;pure .skip:Sem Next).run C.P K.w):=by
  intro s m h1 h2
  cases m with
  | none=>cases h2
  | some H1 =>
   simp only [atF,atA,atC] at h2
   obtain ⟨rfl,rfl⟩:=h2
   obtain ⟨w',μ',h3,h4,h5⟩:=h1 _ rfl
   simp only [Sem.run_bind,h3,Result.andThen_ok,Sem.run_pure]
   exact ⟨μ',h4,h5,aA.top _ _ _⟩
 unfold step at h
 unfold execOp
 cases hop:o.op <;> simp only [hop] at h ⊢
 case move y =>
  simp only [atA,atC] at h
  obtain ⟨rfl,rfl⟩:=h
  exact Res.same hI rfl (eT _ y)
 case assign y =>
  simp only [atA] at h
  obtain ⟨μ',h1,h2,h3⟩:=PX (t:=o.type) hI (eT o.type y)
  rw [h] at h1 h2 h3
  exact ⟨μ',h1,h2,h3⟩
 case pick c y z =>
  have hc:=eO c
  split at h
  ·rename_i d hd
   rw [hd] at hc
   simp only [atA,atC] at h
   obtain ⟨rfl,rfl⟩:=h
   have hc':=hc.bool
   cases d
   ·exact Res.same hI (v:=a.eval z) (by rw [hc'];simp [asBool]) (eT _ z)
   ·exact Res.same hI (v:=a.eval y) (by rw [hc'];simp [asBool]) (eT _ y)
  ·cases h
 case alloc t =>
  cases hb:su (bg C t) with
  | none=>rw [hb] at h;cases h
  | some p =>
   rw [hb] at h
   simp only [atF,atA] at h
   refine turn ?_
   have:=PW hI hb
   rw [h] at this
   exact this
 case box t y =>
  cases hb:su (fP C fr t y) with
  | none=>rw [hb] at h;cases h
  | some p =>
   rw [hb] at h
   simp only [auW] at h
   split at h
   ·simp only [atA] at h
    refine turn ?_
    have:=XZ (t:=t) hI (eT t y) hb
    rw [h] at this
    exact this
   ·cases h
 case build t parts =>
  refine same (fun y hy=>?_) h
  refine Ue (parts:=iy C fr 0 parts.toList) ?_ hy
  rw [Array.toList_map]
  exact tX hI hf 0 _
 case buildSlice t n parts =>
  refine turn (Gm hI ?_ h)
  rw [Array.toList_map]
  exact tX hI hf _ _
 case load t y=>exact same (fun z hz=>KY hI (eO y) hz) h
 case store t y z =>
  refine skip (fun H1 h1=>?_) h
  obtain ⟨w',h2,h3,h4⟩:=Uc hI (eO y) (eT t z) h1
  exact ⟨w',_,h2,h3,h4⟩
 case nilCheck y =>
  have hy:=eO y
  split at h
  ·rename_i o' i f g hd
   rw [hd] at hy
   split at h
   ·rename_i ob hob
    simp only [atA,atC] at h
    obtain ⟨rfl,rfl⟩:=h
    have hy2:=hy
    simp only [aA,aH,aQ] at hy2
    obtain ⟨ho,hg⟩:=bQ.1 hob
    have:=((hy2.2.2 ob ho).2 hg).2
    rw [this] at hy ⊢
    exact Res.same hI rfl hy
   ·cases h
  ·rename_i p i f t hd
   rw [hd] at hy
   simp only [atA,atC] at h
   obtain ⟨rfl,rfl⟩:=h
   have hy2:=hy
   simp only [aA,aH] at hy2
   obtain ⟨b,off,h1,_⟩:=hy2
   rw [h1] at hy ⊢
   exact Res.same hI rfl hy
  ·cases h
 case binOp op t y z _ =>
  refine same (fun r hr=>?_) h
  obtain ⟨v,h1,h2⟩:=Zr hI (eT t y) (eT t z) hr
  exact ⟨v,h1,JM h2⟩
 case unOp op t y =>
  refine same (fun r hr=>?_) h
  obtain ⟨v,h1,h2⟩:=abS (P:=C.P) (eO y) hr
  exact ⟨v,h1,JM h2⟩
 case convert s d y =>
  refine turn ?_
  obtain ⟨u,w',h1,h2,h3,h4,h5⟩:=XY hI (eT s y) h
  subst h2
  exact ⟨u,w',_,h1,h3,h4,h5⟩
 case makeFunc fn first caps =>
  cases fn <;> simp only at h
  case func f =>
   split at h
   ·rename_i hc
    simp only [atA,atC] at h
    obtain ⟨rfl,rfl⟩:=h
    have aoW:first = #[]:=avQ hc.1
    subst aoW
    refine Res.same hI (v:=.func (.func f) #[] (caps.map a.eval)) (by simp [Instr.makeFunc]) ?_
    simp only [aA,aH]
    refine ⟨_,rfl,by simp,fun j b hb=>?_⟩
    have hs:=sO hc.2 b (atL hb)
    rw [atI] at hb
    cases hj:caps.toList[j]? with
    | none=>rw [hj] at hb;cases hb
    | some y =>
     rw [hj] at hb
     simp only [atF,atA] at hb
     subst hb
     rw [aun] at hj
     exact ⟨a.eval y,by simp [hj],aQ.Xn hs (eO y)⟩
   ·cases h
  all_goals cases h
 case makeMap t r =>
  split at h
  ·rename_i hc
   simp only [atA] at h
   refine turn ?_
   have:=P6 hI (tK.map hI hf r) hc.1 hc.2
   rw [h] at this
   exact this
  ·cases h
 case insert t m k y=>exact skip (fun H1 h1=>Gq hI (eO m) (eO k) (eT _ y) h1) h
 case mapUpdate t m k y=>exact skip (fun H1 h1=>Gq hI (eO m) (eO k) (eT _ y) h1) h
 case makeSlice t l c=>exact turn (GZ hI (eO l) (eO c) h)
 case slice t y lo hi mx =>
  split at h
  ·rename_i hm
   have:mx = none:=by simpa using hm
   subst this
   exact same (fun z hz=>Tq hI (eT t y) (tK.map hI hf lo) (tK.map hI hf hi) hz) h
  ·cases h
 case fieldAddr s y n=>exact same (fun z hz=>GN (eO y) hz) h
 case field t y n=>exact same (fun z hz=>TW (eT t y) hz) h
 case indexAddr t y ix=>exact same (fun z hz=>GR hI (eO y) (eO ix) hz) h
 case index t y ix=>exact same (fun z hz=>TY (eT t y) (eO ix) hz) h
 case lookup t y k ok=>exact same (fun z hz=>P5 hI (eO y) (eO k) hz) h
 case mapEntry t m k=>exact turn (Uh hI (eO m) (eO k) h)
 case entryStore t m s y=>exact skip (fun H1 h1=>Gs (t:=t) hI (eO m) (eO s) (eT _ y) h1) h
 case extract t i =>
  have ht:=eO t
  split at h
  ·rename_i l hl
   rw [hl] at ht
   refine same (fun z hz=>?_) h
   simp only [aA] at ht
   obtain ⟨vs,h1,h2,h3⟩:=ht
   obtain ⟨u,h4,h5⟩:=h3 i z hz
   exact ⟨u,by rw [h1];simp [Instr.extract,h4],h5.v⟩
  ·cases h
 case call c =>
  unfold uj at h
  split at h
  ·rename_i b hb
   have hr:(do let d ← resolve a.eval c o.type;invoke d.target d.args:Sem Next) = builtin b c.argTypes o.type (c.args.map fun | .const _=>true | _=>false) (c.args.map a.eval):=by
    simp [resolve,hb,invoke]
    rfl
   rw [hr]
   exact NG hI (by rw [Array.toList_map];exact uY hI hf _ _) h _ _
  ·rename_i y hy
   simp only [isFn,hop,hy] at hno
   cases hno
  ·cases h
 all_goals cases h
end Go.AM
